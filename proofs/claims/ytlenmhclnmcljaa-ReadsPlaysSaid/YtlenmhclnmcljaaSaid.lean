/- The walks of said and same. -/
import Derived.Test.YtlenmhclnmcljaaDoes
namespace Go.Proofs.Ytlenmhclnmcljaa
open Go.RowKit

/-- What said leaves. -/
def SaidTold (B : Nat) (o : ROut) (w : World) (e : Ending) (w' : World) : Prop := ∃ v1 v2 vx vy, e = .returned (.tuple #[.agg #[v1, v2], .bool o.a, .int .i64 (o.n : Int), vx, vy]) ∧ RRow w' B v1 o.M ∧ IRow w' B v2 o.I ∧ RRow w' B vx o.X ∧ IRow w' B vy o.Y ∧ Below w.heap.size w w'

/-- The boxes of said's parameters and of its result. -/
theorem said_box {B : Nat} {vB vW : Value} {M : List Rd} {I : List Nat} (w : World) (d x y : Int) (hB : RRow w B vB M) (hI : IRow w B vW I) :
    Hid (RRow (((w.alloc (.cells #[vB, vW] 46)).alloc (.cells #[.int .u8 d, .int .u64 x, .int .u64 y] 39)).alloc (.cells #[.slice none 0 0, .slice none 0 0] 46)) B vB M) ∧
    Hid (IRow (((w.alloc (.cells #[vB, vW] 46)).alloc (.cells #[.int .u8 d, .int .u64 x, .int .u64 y] 39)).alloc (.cells #[.slice none 0 0, .slice none 0 0] 46)) B vW I) ∧
    (((w.alloc (.cells #[vB, vW] 46)).alloc (.cells #[.int .u8 d, .int .u64 x, .int .u64 y] 39)).alloc (.cells #[.slice none 0 0, .slice none 0 0] 46)).heap[w.heap.size + 1 + 1]? = some (.cells #[.slice none 0 0, .slice none 0 0] 46) ∧
    Below w.heap.size w (((w.alloc (.cells #[vB, vW] 46)).alloc (.cells #[.int .u8 d, .int .u64 x, .int .u64 y] 39)).alloc (.cells #[.slice none 0 0, .slice none 0 0] 46)) ∧
    w.heap.size + 3 ≤ (((w.alloc (.cells #[vB, vW] 46)).alloc (.cells #[.int .u8 d, .int .u64 x, .int .u64 y] 39)).alloc (.cells #[.slice none 0 0, .slice none 0 0] 46)).heap.size := by
  have hb : Below w.heap.size w (((w.alloc (.cells #[vB, vW] 46)).alloc (.cells #[.int .u8 d, .int .u64 x, .int .u64 y] 39)).alloc (.cells #[.slice none 0 0, .slice none 0 0] 46)) := (((Below.refl _ _).alloc (Nat.le_refl _) _).alloc (by simp) _).alloc (by simp; omega) _
  refine ⟨Lib.hid (hB.below hb), Lib.hid (hI.below hb), ?_, hb, by simp⟩
  have e : w.heap.size + 1 + 1 = ((w.alloc (.cells #[vB, vW] 46)).alloc (.cells #[.int .u8 d, .int .u64 x, .int .u64 y] 39)).heap.size := by simp
  rw [e]
  exact heap_alloc_last _ _
/-- A row of another type stays behind a made block and two stores into the result. -/
theorem own_said0 {w2 : World} {base e size n g : Nat} {v u0 u1 : Value} {xs : List Value} {C : Array Value} (h : w2.ownsRow base e size v n xs) (hz : w2.heap[g]? = some (.cells C 46 (0, 0))) (he : e ≠ 46) :
    ((w2.setCell ⟨g, 0, none⟩ u0).setCell ⟨g, 1, none⟩ u1).ownsRow base e size v n xs :=
  ownsRow_of_heap h fun i hi => by
    obtain ⟨_, cur, hc⟩ := own_row h i hi
    have hne : i ≠ g := fun e2 => by subst e2; rw [hz] at hc; cases hc; exact he rfl
    rw [heap_setCell_other _ _ _ _ hne, heap_setCell_other _ _ _ _ hne]
theorem own_said {w2 : World} {base e size n g : Nat} {v u0 u1 : Value} {xs : List Value} {o : Obj} {C : Array Value} (h : w2.ownsRow base e size v n xs) (hz : w2.heap[g]? = some (.cells C 46 (0, 0))) (he : e ≠ 46) :
    (((w2.setCell ⟨g, 0, none⟩ u0).setCell ⟨g, 1, none⟩ u1).alloc o).ownsRow base e size v n xs := (own_said0 h hz he).alloc o

set_option maxHeartbeats 4000000 in
theorem said_any (B : Nat) (vB vW : Value) (M : List Rd) (I : List Nat) (d x y : Nat) (w : World) (hB : RRow w B vB M) (hI : IRow w B vW I) (hM : M.length ≤ 1000) (hIl : I.length ≤ 1000) (hBw : B ≤ w.heap.size) :
    Calls Try.prog 15 #[.agg #[vB, vW], .agg #[.int .u8 (d : Int), .int .u64 (x : Int), .int .u64 (y : Int)]] w (SaidTold B (refAct M I d x y) w) := by
  obtain ⟨A, capA, rfl, _, _⟩ := hB.form
  obtain ⟨C, capC, rfl, _, _⟩ := hI.form
  by_cases h0 : d = 0
  · subst h0
    have HB0 := Lib.hid hB
    have HI0 := Lib.hid hI
    go_enter Try.func15, Try.ntmps15
    go_wp2_with fail
    obtain ⟨HB3, HI3, hz, hb0, hsz⟩ := said_box w 0 x y hB hI
    generalize ((w.alloc (.cells #[.slice A M.length capA, .slice C I.length capC] 46)).alloc (.cells #[.int .u8 0, .int .u64 (x : Int), .int .u64 (y : Int)] 39)).alloc (.cells #[.slice none 0 0, .slice none 0 0] 46) = W at HB3 HI3 hz hb0 hsz ⊢
    obtain ⟨g2, hg2⟩ : ∃ g, w.heap.size = g := ⟨_, rfl⟩
    rw [hg2] at hz hsz ⊢
    have HG := Lib.hid hg2
    have HZ := Lib.hid hz
    clear hz hg2
    refine (refAsk_any B _ _ M I x _ HB3.out HI3.out hM hIl (Nat.le_trans hBw hb0.size)).mono ?_
    rintro e w2 ⟨bb, v2, rfl, hbb, hff, htt, b2⟩
    have HFF := Lib.hid hff
    have HTT := Lib.hid htt
    have HBB := Lib.hid hbb
    clear hff htt hbb
    have HV : Hid (IRow w2 B v2 (if bb then I ++ [x] else I)) := Lib.hid (by
      cases bb with
      | true => exact HTT.out rfl
      | false => rw [HFF.out rfl]; exact HI3.out.below b2)
    obtain ⟨C2, cap2, hv2, _, _⟩ := HV.out.form
    obtain ⟨l2, hl2⟩ : ∃ l, (if bb then I ++ [x] else I).length = l := ⟨_, rfl⟩
    rw [hl2] at hv2
    subst hv2
    have HL2 := Lib.hid hl2
    clear hl2
    have hlt : g2 + 1 + 1 < w2.heap.size := by have := b2.size; omega
    have hz2 := (b2.block (g2 + 1 + 1) (by omega)).trans HZ.out
    have z0 : w2.cell? ⟨g2 + 1 + 1, 0, none⟩ = some (.slice none 0 0) := by rw [cell_of_row _ _ _ _ _ _ hz2]; rfl
    have z1 : w2.cell? ⟨g2 + 1 + 1, 1, none⟩ = some (.slice none 0 0) := by rw [cell_of_row _ _ _ _ _ _ hz2]; rfl
    have f0 := frozen_of_row w2 (g2 + 1 + 1) 0 _ _ hz2
    have f1 := frozen_of_row w2 (g2 + 1 + 1) 1 _ _ hz2
    have hb2 := hb0.trans (b2.mono hb0.size)
    have HB2 := Lib.hid b2
    clear hz2 b2
    go_wp2_with fail
    have hwg := HG.out
    refine bodyPost_ret (v := .tuple #[.agg #[.slice A M.length capA, .slice C2 l2 cap2], .bool bb, .int .i64 0, .slice none 0 0, .slice none 0 0]) (by simp [results, Try.results15, go_sem, z0, z1, hlt]) rfl ?_
    have hz2 := (HB2.out.block (g2 + 1 + 1) (by omega)).trans HZ.out
    have k1 := own_said (u0 := .slice A M.length capA) (u1 := .slice C2 l2 cap2) (o := .cells #[.slice A M.length capA, .slice C2 l2 cap2] 46) (HB3.out.below HB2.out) hz2 (by decide)
    have k2 := own_said (u0 := .slice A M.length capA) (u1 := .slice C2 l2 cap2) (o := .cells #[.slice A M.length capA, .slice C2 l2 cap2] 46) HV.out hz2 (by decide)
    cases bb with
    | true =>
      have e : refAct M I 0 x y = ⟨true, 0, [], [], M, I ++ [x]⟩ := by simp [refAct, ← HBB.out]
      rw [e]
      exact ⟨_, _, _, _, rfl, k1, k2, RRow.nil _ _, IRow.nil _ _, (((hb2.setCell (by show w.heap.size ≤ g2 + 1 + 1; omega) _).setCell (by show w.heap.size ≤ g2 + 1 + 1; omega) _).alloc (by simp; exact hb2.size) _)⟩
    | false =>
      have e : refAct M I 0 x y = ⟨false, 0, [], [], M, I⟩ := by simp [refAct, ← HBB.out]
      rw [e]
      exact ⟨_, _, _, _, rfl, k1, k2, RRow.nil _ _, IRow.nil _ _, (((hb2.setCell (by show w.heap.size ≤ g2 + 1 + 1; omega) _).setCell (by show w.heap.size ≤ g2 + 1 + 1; omega) _).alloc (by simp; exact hb2.size) _)⟩
  by_cases h1 : d = 1
  · subst h1
    go_enter Try.func15, Try.ntmps15
    go_wp2_with fail
    obtain ⟨HB3, HI3, hz, hb0, hsz⟩ := said_box w 1 x y hB hI
    generalize ((w.alloc (.cells #[.slice A M.length capA, .slice C I.length capC] 46)).alloc (.cells #[.int .u8 1, .int .u64 (x : Int), .int .u64 (y : Int)] 39)).alloc (.cells #[.slice none 0 0, .slice none 0 0] 46) = W at HB3 HI3 hz hb0 hsz ⊢
    obtain ⟨g2, hg2⟩ : ∃ g, w.heap.size = g := ⟨_, rfl⟩
    rw [hg2] at hz hsz ⊢
    have HG := Lib.hid hg2
    have HZ := Lib.hid hz
    clear hz hg2
    refine (refBegin_any B _ _ M I x y _ HB3.out HI3.out hM hIl).mono ?_
    rintro e w2 ⟨v1, rfl, hr, b2⟩
    have HV := Lib.hid hr
    clear hr
    obtain ⟨C2, cap2, hv2, _, _⟩ := HV.out.form
    obtain ⟨l2, hl2⟩ : ∃ l, (M ++ I.map fun i => (⟨i, mxIx M x, mxRd M y⟩ : Rd)).length = l := ⟨_, rfl⟩
    rw [hl2] at hv2
    subst hv2
    clear hl2
    have hlt : g2 + 1 + 1 < w2.heap.size := by have := b2.size; omega
    have hz2 := (b2.block (g2 + 1 + 1) (by omega)).trans HZ.out
    have z0 : w2.cell? ⟨g2 + 1 + 1, 0, none⟩ = some (.slice none 0 0) := by rw [cell_of_row _ _ _ _ _ _ hz2]; rfl
    have z1 : w2.cell? ⟨g2 + 1 + 1, 1, none⟩ = some (.slice none 0 0) := by rw [cell_of_row _ _ _ _ _ _ hz2]; rfl
    have f0 := frozen_of_row w2 (g2 + 1 + 1) 0 _ _ hz2
    have f1 := frozen_of_row w2 (g2 + 1 + 1) 1 _ _ hz2
    have hb2 := hb0.trans (b2.mono hb0.size)
    have HB2 := Lib.hid b2
    clear hz2 b2
    go_wp2_with fail
    have hwg := HG.out
    refine bodyPost_ret (v := .tuple #[.agg #[.slice C2 l2 cap2, .slice none 0 0], .bool false, .int .i64 (I.length : Int), .slice none 0 0, .slice none 0 0]) (by simp [results, Try.results15, go_sem, z0, z1, hlt]) rfl ?_
    have hz2 := (HB2.out.block (g2 + 1 + 1) (by omega)).trans HZ.out
    have k1 := own_said (u0 := .slice C2 l2 cap2) (u1 := .slice none 0 0) (o := .cells #[.slice C2 l2 cap2, .slice none 0 0] 46) (World.ownsRow.mono HV.out (Nat.le_trans hBw hb0.size)) hz2 (by decide)
    have e : refAct M I 1 x y = ⟨false, I.length, [], [], M ++ I.map fun i => ⟨i, mxIx M x, mxRd M y⟩, []⟩ := by simp [refAct]
    rw [e]
    exact ⟨_, _, _, _, rfl, k1, IRow.nil _ _, RRow.nil _ _, IRow.nil _ _, (((hb2.setCell (by show w.heap.size ≤ g2 + 1 + 1; omega) _).setCell (by show w.heap.size ≤ g2 + 1 + 1; omega) _).alloc (by simp; exact hb2.size) _)⟩
  by_cases h2 : d = 2
  · subst h2
    go_enter Try.func15, Try.ntmps15
    go_wp2_with fail
    obtain ⟨HB3, HI3, hz, hb0, hsz⟩ := said_box w 2 x y hB hI
    generalize ((w.alloc (.cells #[.slice A M.length capA, .slice C I.length capC] 46)).alloc (.cells #[.int .u8 2, .int .u64 (x : Int), .int .u64 (y : Int)] 39)).alloc (.cells #[.slice none 0 0, .slice none 0 0] 46) = W at HB3 HI3 hz hb0 hsz ⊢
    obtain ⟨g2, hg2⟩ : ∃ g, w.heap.size = g := ⟨_, rfl⟩
    rw [hg2] at hz hsz ⊢
    have HG := Lib.hid hg2
    have HZ := Lib.hid hz
    clear hz hg2
    refine (refTold_any B _ _ M I x _ HB3.out HI3.out hM).mono ?_
    rintro e w2 ⟨v1, v2, rfl, hr1, hr2, b2⟩
    have HV := Lib.hid hr1
    have HV2 := Lib.hid hr2
    clear hr1 hr2
    obtain ⟨C2, cap2, hv2, _, _⟩ := HV.out.form
    obtain ⟨l2, hl2⟩ : ∃ l, (M.filter fun r => decide (x < r.rd)).length = l := ⟨_, rfl⟩
    rw [hl2] at hv2
    subst hv2
    clear hl2
    have hlt : g2 + 1 + 1 < w2.heap.size := by have := b2.size; omega
    have hz2 := (b2.block (g2 + 1 + 1) (by omega)).trans HZ.out
    have z0 : w2.cell? ⟨g2 + 1 + 1, 0, none⟩ = some (.slice none 0 0) := by rw [cell_of_row _ _ _ _ _ _ hz2]; rfl
    have z1 : w2.cell? ⟨g2 + 1 + 1, 1, none⟩ = some (.slice none 0 0) := by rw [cell_of_row _ _ _ _ _ _ hz2]; rfl
    have f0 := frozen_of_row w2 (g2 + 1 + 1) 0 _ _ hz2
    have f1 := frozen_of_row w2 (g2 + 1 + 1) 1 _ _ hz2
    have hb2 := hb0.trans (b2.mono hb0.size)
    have HB2 := Lib.hid b2
    clear hz2 b2
    go_wp2_with fail
    have hwg := HG.out
    refine bodyPost_ret (v := .tuple #[.agg #[.slice C2 l2 cap2, .slice C I.length capC], .bool false, .int .i64 0, v2, .slice none 0 0]) (by simp [results, Try.results15, go_sem, z0, z1, hlt]) rfl ?_
    have hz2 := (HB2.out.block (g2 + 1 + 1) (by omega)).trans HZ.out
    have k1 := own_said (u0 := .slice C2 l2 cap2) (u1 := .slice C I.length capC) (o := .cells #[.slice C2 l2 cap2, .slice C I.length capC] 46) (World.ownsRow.mono HV.out (Nat.le_trans hBw hb0.size)) hz2 (by decide)
    have k2 := own_said (u0 := .slice C2 l2 cap2) (u1 := .slice C I.length capC) (o := .cells #[.slice C2 l2 cap2, .slice C I.length capC] 46) (HI3.out.below HB2.out) hz2 (by decide)
    have k3 := own_said (u0 := .slice C2 l2 cap2) (u1 := .slice C I.length capC) (o := .cells #[.slice C2 l2 cap2, .slice C I.length capC] 46) (World.ownsRow.mono HV2.out (Nat.le_trans hBw hb0.size)) hz2 (by decide)
    have e : refAct M I 2 x y = ⟨false, 0, M.filter fun r => decide (r.rd ≤ x), [], M.filter fun r => decide (x < r.rd), I⟩ := by simp [refAct]
    rw [e]
    exact ⟨_, _, _, _, rfl, k1, k2, k3, IRow.nil _ _, (((hb2.setCell (by show w.heap.size ≤ g2 + 1 + 1; omega) _).setCell (by show w.heap.size ≤ g2 + 1 + 1; omega) _).alloc (by simp; exact hb2.size) _)⟩
  by_cases h3 : d = 3
  · subst h3
    go_enter Try.func15, Try.ntmps15
    go_wp2_with fail
    obtain ⟨HB3, HI3, hz, hb0, hsz⟩ := said_box w 3 x y hB hI
    generalize ((w.alloc (.cells #[.slice A M.length capA, .slice C I.length capC] 46)).alloc (.cells #[.int .u8 3, .int .u64 (x : Int), .int .u64 (y : Int)] 39)).alloc (.cells #[.slice none 0 0, .slice none 0 0] 46) = W at HB3 HI3 hz hb0 hsz ⊢
    obtain ⟨g2, hg2⟩ : ∃ g, w.heap.size = g := ⟨_, rfl⟩
    rw [hg2] at hz hsz ⊢
    have HG := Lib.hid hg2
    have HZ := Lib.hid hz
    clear hz hg2
    refine (refDrop_any B _ _ M I _ HB3.out HI3.out hM hIl).mono ?_
    rintro e w2 ⟨v1, rfl, hr1, b2⟩
    have HV := Lib.hid hr1
    clear hr1
    have hlt : g2 + 1 + 1 < w2.heap.size := by have := b2.size; omega
    have hz2 := (b2.block (g2 + 1 + 1) (by omega)).trans HZ.out
    have z0 : w2.cell? ⟨g2 + 1 + 1, 0, none⟩ = some (.slice none 0 0) := by rw [cell_of_row _ _ _ _ _ _ hz2]; rfl
    have z1 : w2.cell? ⟨g2 + 1 + 1, 1, none⟩ = some (.slice none 0 0) := by rw [cell_of_row _ _ _ _ _ _ hz2]; rfl
    have f0 := frozen_of_row w2 (g2 + 1 + 1) 0 _ _ hz2
    have f1 := frozen_of_row w2 (g2 + 1 + 1) 1 _ _ hz2
    have hb2 := hb0.trans (b2.mono hb0.size)
    have HB2 := Lib.hid b2
    clear hz2 b2
    go_wp2_with fail
    have hwg := HG.out
    refine bodyPost_ret (v := .tuple #[.agg #[.slice none 0 0, .slice none 0 0], .bool false, .int .i64 0, .slice none 0 0, v1]) (by simp [results, Try.results15, go_sem, z0, z1, hlt]) rfl ?_
    have hz2 := (HB2.out.block (g2 + 1 + 1) (by omega)).trans HZ.out
    have k3 := own_said0 (u0 := .slice none 0 0) (u1 := .slice none 0 0) (World.ownsRow.mono HV.out (Nat.le_trans hBw hb0.size)) hz2 (by decide)
    have e : refAct M I 3 x y = ⟨false, 0, [], M.map Rd.id ++ I, [], []⟩ := by simp [refAct]
    rw [e]
    exact ⟨_, _, _, _, rfl, RRow.nil _ _, IRow.nil _ _, RRow.nil _ _, k3, (((hb2).setCell (by show w.heap.size ≤ g2 + 1 + 1; omega) _).setCell (by show w.heap.size ≤ g2 + 1 + 1; omega) _)⟩
  have e0 : (((d : Nat) : Int) == 0) = false := by simp; omega
  have e1 : (((d : Nat) : Int) == 1) = false := by simp; omega
  have e2 : (((d : Nat) : Int) == 2) = false := by simp; omega
  have e3 : (((d : Nat) : Int) == 3) = false := by simp; omega
  go_enter Try.func15, Try.ntmps15
  go_wp2_with fail
  have e : refAct M I d x y = ⟨false, 0, [], [], M, I⟩ := by simp [refAct, h0, h1, h2, h3]
  rw [e]
  have hbb : Below w.heap.size w (((w.alloc (.cells #[.slice A M.length capA, .slice C I.length capC] 46)).alloc (.cells #[.int .u8 (d : Int), .int .u64 (x : Int), .int .u64 (y : Int)] 39)).alloc (.cells #[.slice A M.length capA, .slice C I.length capC] 46)) := (((Below.refl _ _).alloc (Nat.le_refl _) _).alloc (by simp) _).alloc (by simp; omega) _
  refine bodyPost_ret (v := .tuple #[.agg #[.slice A M.length capA, .slice C I.length capC], .bool false, .int .i64 0, .slice none 0 0, .slice none 0 0]) (by simp [results, Try.results15, go_sem]) rfl
    ⟨_, _, _, _, rfl, hB.below hbb, hI.below hbb, RRow.nil _ _, IRow.nil _ _, hbb⟩
end Go.Proofs.Ytlenmhclnmcljaa
