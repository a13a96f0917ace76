/- The walk of the document's Take. -/
import Derived.Test.YtacddiidldppnaaRefPut
import Derived.Test.YtacddiidldppnaaRefMath
namespace Go.Proofs.Ytacddiidldppnaa
open Go.RowKit

/-- A piece of memory that holds these cells. -/
def Src (w : World) (b off : Nat) (M : List It) : Prop := ∀ j u, (irow M)[j]? = some u → w.cell? ⟨b, off + j, none⟩ = some u
theorem GRow.src {w : World} {base b cap : Nat} {L : List It} (h : GRow w base (.slice (some ⟨b, 0, none⟩) L.length cap) L) : Src w b 0 L := fun j u hu => by
  have hj := (List.getElem?_eq_some_iff.1 hu).1
  have hL := irow_length L
  rw [Nat.zero_add, World.ownsRow.cellAt h j (by omega)]
  exact hu
theorem Src.take {w : World} {b : Nat} {L : List It} (h : Src w b 0 L) (k : Nat) (hk : k ≤ L.length) : Src w b 0 (L.take k) := fun j u hu => by
  have hj := (List.getElem?_eq_some_iff.1 hu).1
  refine h j u ?_
  rw [← List.take_append_drop k L, irow_append, List.getElem?_append_left hj]
  exact hu
theorem Src.drop {w : World} {b : Nat} {L : List It} (h : Src w b 0 L) (k : Nat) (hk : k ≤ L.length) : Src w b (k * 2) (L.drop k) := fun j u hu => by
  have e : (irow L)[k * 2 + j]? = some u := by
    have h1 : (irow (L.take k)).length = k * 2 := by rw [irow_length, List.length_take, Nat.min_eq_left hk]
    rw [← List.take_append_drop k L, irow_append, List.getElem?_append_right (by omega), h1, Nat.add_sub_cancel_left]
    exact hu
  have := h _ u e
  rwa [Nat.zero_add] at this
theorem Src.nil (w : World) (b off : Nat) : Src w b off [] := fun j u hu => by simp [irow] at hu
theorem GRow.draws {w : World} {base : Nat} {v : Value} {L : List It} (h : GRow w base v L) : GRow w.drew base v L := h.keep fun _ _ => rfl
theorem GRow.set {w : World} {base : Nat} {v : Value} {L : List It} (h : GRow w base v L) {p : Addr} (hp : v.ownBlock ≠ some p.block) (u : Value) : GRow (w.setCell p u) base v L :=
  h.keep fun k hk => heap_setCell_other _ _ _ _ fun e => hp (by rw [hk, e])

/-- A window of a row appended onto a row of the call's own, at a step of a region that draws its order. -/
theorem step_append_g {ops : Array Oper} {o : Oper} {a : Act} {w : World} {K : Act → World → Prop} {Q : Exit → Act → World → Prop} {E : Prop} (hgd : o.guard = none) (s x : Operand)
    (ho : o.op = .call { callee := .builtin .append, args := #[s, x], argTypes := #[39, 39] })
    (base : Nat) (v : Value) (L M : List It) (b off m c : Nat) (hm : M.length = m) (hs : a.eval s = v) (hx : a.eval x = .slice (some ⟨b, off, none⟩) m c) (hv : GRow w base v L) (hM : Src w b off M) (hl : L.length + m ≤ 10000) (hbase : base ≤ w.heap.size)
    (h : ∀ v' w', GRow w' base v' (L ++ M) → w.grownBy w' v.ownBlock → K (a.put o.dst v') w') :
    if Region.wanted o (yielded ops a.tmps) = true then Oper.wp Try.prog o a w K Q else E := by
  have hw : Region.wanted o (yielded ops a.tmps) = true := by simp [Region.wanted, hgd]
  rw [if_pos hw]
  subst hm
  obtain ⟨i0, hi, hz0, hz1, hz2⟩ := info_parts info61
  have hnews : ∀ j y, (irow M)[j]? = some y → w.cell? ((⟨b, off, none⟩ : Addr).add j) = some y := fun j y hj => by
    have e : (⟨b, off, none⟩ : Addr).add j = ⟨b, off + j, none⟩ := by unfold Addr.add; split <;> simp_all
    rw [e]; exact hM j y hj
  obtain ⟨v', w', hr, h1, h2, _⟩ := run_append_own_at (P := Try.prog) w base 39 o.type 61 i0 _ 2 16 Try.underlying39 hi hz0 hz1 hz2 rfl (by decide) v L.length (irow L) hv ⟨b, off, none⟩ M.length c (irow M) (irow_length M) hnews (irow_one M) (by unfold maxLen; omega) (by omega) hbase
  unfold Oper.wp execOp
  simp only [ho, resolve, invoke, builtin, Sem.run_bind, Sem.run_pure, Result.andThen_ok, List.map_toArray, List.map_cons, List.map_nil, hs, hx, hr]
  refine h v' w' ?_ h2
  unfold GRow
  rw [irow_append, List.length_append]
  exact h1

/-- What the document's Take leaves. -/
def RefTake (G : List It) (t : Nat) (w : World) (e : Ending) (w' : World) : Prop :=
  ∃ (b : Bool) (v' : Value) (t' : Nat) (x : It), e = .returned (.tuple #[.agg #[v', .int .i64 (t' : Int)], .agg #[.int .i64 (x.q : Int), .int .u64 (x.id : Int)], .bool b]) ∧ (∃ A' n' c', v' = .slice A' n' c') ∧ (b = false → takeF ⟨qOf G, t⟩ = none) ∧
    (b = true → ∃ G', takeF ⟨qOf G, t⟩ = some (⟨qOf G', t'⟩, x) ∧ GRow w' w.heap.size v' G' ∧ G'.Sublist G ∧ G'.length < G.length) ∧ Below w.heap.size w w'

set_option maxHeartbeats 2000000 in
theorem refTake_any (B : Nat) (v : Value) (G : List It) (t : Nat) (w : World) (h : GRow w B v G) (hl : G.length ≤ 1000) (ht : t < 5) :
    Calls Try.prog 22 #[.agg #[v, .int .i64 (t : Int)]] w (RefTake G t w) := by
  obtain ⟨A, cap, rfl, hcap, hcs⟩ := h.form
  have HI := Lib.hid h
  have HT := Lib.hid ht
  have HCS : Hid (∀ k, k < G.length → ∃ b, A = some ⟨b, 0, none⟩) := Lib.hid fun k hk => by obtain ⟨b, h1, _⟩ := hcs k hk; exact ⟨b, h1⟩
  obtain ⟨P, hP⟩ : ∃ P, pick (qOf G) t = P := ⟨_, rfl⟩
  have HP := Lib.hid hP
  have HPK := HP
  clear h ht hP hcs
  go_enter Try.func22, Try.ntmps22
  go_wp2_with fail
  have hb0 : Below w.heap.size w (((w.alloc (.cells #[.slice A G.length cap, .int .i64 (t : Int)] 41)).alloc (.cells #[.slice none 0 0, .int .i64 0] 41)).alloc (.cells #[.int .i64 0, .int .u64 0] 61)) := (((Below.refl _ _).alloc (Nat.le_refl _) _).alloc (by simp) _).alloc (by simp; omega) _
  have hx : (((w.alloc (.cells #[.slice A G.length cap, .int .i64 (t : Int)] 41)).alloc (.cells #[.slice none 0 0, .int .i64 0] 41)).alloc (.cells #[.int .i64 0, .int .u64 0] 61)).heap[w.heap.size]? = some (.cells #[.slice A G.length cap, .int .i64 (t : Int)] 41 (0, 0)) := (Below.heap_alloc _ _ _ (by simp; omega)).trans (heap2 w _ _).1
  have hz : (((w.alloc (.cells #[.slice A G.length cap, .int .i64 (t : Int)] 41)).alloc (.cells #[.slice none 0 0, .int .i64 0] 41)).alloc (.cells #[.int .i64 0, .int .u64 0] 61)).heap[w.heap.size + 1]? = some (.cells #[.slice none 0 0, .int .i64 0] 41 (0, 0)) := (Below.heap_alloc _ _ _ (by simp)).trans (heap2 w _ _).2
  have hy : (((w.alloc (.cells #[.slice A G.length cap, .int .i64 (t : Int)] 41)).alloc (.cells #[.slice none 0 0, .int .i64 0] 41)).alloc (.cells #[.int .i64 0, .int .u64 0] 61)).heap[w.heap.size + 2]? = some (.cells #[.int .i64 0, .int .u64 0] 61 (0, 0)) := by simpa using heap_alloc_last ((w.alloc (.cells #[.slice A G.length cap, .int .i64 (t : Int)] 41)).alloc (.cells #[.slice none 0 0, .int .i64 0] 41)) (.cells #[.int .i64 0, .int .u64 0] 61)
  generalize (((w.alloc (.cells #[.slice A G.length cap, .int .i64 (t : Int)] 41)).alloc (.cells #[.slice none 0 0, .int .i64 0] 41)).alloc (.cells #[.int .i64 0, .int .u64 0] 61)) = W0 at hb0 hx hz hy ⊢
  obtain ⟨g2, hg2⟩ : ∃ g, w.heap.size = g := ⟨_, rfl⟩
  rw [hg2] at hx hz hy ⊢
  have HB0 := Lib.hid hb0
  have HX := Lib.hid hx
  have HZ := Lib.hid hz
  have HY := Lib.hid hy
  have HG := Lib.hid hg2
  clear hb0 hx hz hy hg2
  go_loopw [5, 6] (fun qv nv wr => ∃ i q : Nat, i ≤ 5 ∧ q < 5 ∧ nv = .int .i64 (i : Int) ∧ qv = .int .i64 (q : Int) ∧ Hid ((t + i) % 5 = q) ∧ Hid (pickFrom (qOf G) t i (5 - i) = P) ∧ Hid (Below W0.heap.size W0 wr)) (fun _ n _ => 5 - (intOf n).toNat)
  case atStart => exact ⟨0, t, by omega, HT.out, rfl, rfl, Lib.hid (by have := HT.out; omega), HP, Lib.hid (Below.refl _ _)⟩
  case round =>
    clear HP
    obtain ⟨i, q, hi, hq5, rfl, rfl, HQ, HP, HB⟩ := hrel
    have hx := (HB.out.block _ (lt_of_block HX.out)).trans HX.out
    have hz := (HB.out.block _ (lt_of_block HZ.out)).trans HZ.out
    have x0 : wr.cell? ⟨g2, 0, none⟩ = some (.slice A G.length cap) := by rw [cell_of_row _ _ _ _ _ _ hx]; rfl
    have x1 : wr.cell? ⟨g2, 1, none⟩ = some (.int .i64 (t : Int)) := by rw [cell_of_row _ _ _ _ _ _ hx]; rfl
    have z0 : wr.cell? ⟨g2 + 1, 0, none⟩ = some (.slice none 0 0) := by rw [cell_of_row _ _ _ _ _ _ hz]; rfl
    have z1 : wr.cell? ⟨g2 + 1, 1, none⟩ = some (.int .i64 0) := by rw [cell_of_row _ _ _ _ _ _ hz]; rfl
    have f0 := frozen_of_row wr (g2 + 1) 0 _ _ hz
    have f1 := frozen_of_row wr (g2 + 1) 1 _ _ hz
    have hy := (HB.out.block _ (lt_of_block HY.out)).trans HY.out
    have y0 : wr.cell? ⟨g2 + 1 + 1, 0, none⟩ = some (.int .i64 0) := by rw [cell_of_row _ _ _ _ _ _ hy]; rfl
    have y1 : wr.cell? ⟨g2 + 1 + 1, 1, none⟩ = some (.int .u64 0) := by rw [cell_of_row _ _ _ _ _ _ hy]; rfl
    have m0 := frozen_of_row wr (g2 + 1 + 1) 0 _ _ hy
    have m1 := frozen_of_row wr (g2 + 1 + 1) 1 _ _ hy
    clear hx hz hy
    by_cases hi5 : i < 5
    · have hpi := HP.out
      rw [show 5 - i = (5 - (i + 1)) + 1 by omega] at hpi
      unfold pickFrom at hpi
      rw [HQ.out] at hpi
      have HPI := Lib.hid hpi
      clear hpi HP
      have HR := Lib.hid ((HI.out.below HB0.out).below HB.out)
      go_wp2_with fail
      with_reducible refine (refFirst_any B (.slice A G.length cap) G (t : Int) q wr HR.out hl).mono ?_
      rintro e w1 ⟨rfl, hb1⟩
      have HB1 := Lib.hid (HB.out.trans (hb1.mono HB.out.size))
      have HR1 := Lib.hid (HR.out.below hb1)
      clear hb1 HB HR x0 x1 z0 z1 f0 f1 y0 y1 m0 m1
      cases hP : place G q with
      | none =>
        have he := place_nil hP
        have hpi := HPI.out
        rw [if_pos he] at hpi
        have HP2 := Lib.hid hpi
        clear he hpi HPI hP
        rw [show placeI none = -1 from rfl]
        by_cases hq4 : q = 4
        · subst hq4
          go_wp2_with fail
          go_roundw
          case rel => exact ⟨i + 1, 0, by omega, by omega, by go_num, rfl, Lib.hid (by have := HQ.out; omega), HP2, HB1⟩
          case measure => simp [intOf]; omega
        · have hd : ((q : Int) + 1 == 5) = false := by simp; omega
          go_wp2_with fail
          go_roundw
          case rel => exact ⟨i + 1, q + 1, by omega, by omega, by go_num, by go_num, Lib.hid (by have := HQ.out; omega), HP2, HB1⟩
          case measure => simp [intOf]; omega
      | some k =>
        have hne := place_some_ne hP
        have hpi := HPI.out
        rw [if_neg hne] at hpi
        subst hpi
        obtain ⟨xx, hxx, htk⟩ := takeF_place (t := t) HPK.out hP
        obtain ⟨hk, hgk⟩ := List.getElem?_eq_some_iff.1 hxx
        obtain ⟨b, rfl⟩ := HCS.out k hk
        obtain ⟨_, cap', he, _, hc⟩ := HR1.out.form
        cases he
        obtain ⟨b', he, hBb, hbl, c0, c1⟩ := hc k hk
        cases he
        rw [hgk] at c0 c1
        have HTK := Lib.hid htk
        have hx := (HB1.out.block _ (lt_of_block HX.out)).trans HX.out
        have x0 : w1.cell? ⟨g2, 0, none⟩ = some (.slice (some ⟨b, 0, none⟩) G.length cap) := by rw [cell_of_row _ _ _ _ _ _ hx]; rfl
        rw [show placeI (some k) = (k : Int) from rfl]
        clear hne htk hxx hgk hc hP HPI HCS hx
        by_cases hq4 : q = 4
        · subst hq4
          by_cases hce : cap = k + 1
          · subst hce
            go_wp2_with fail
            obtain ⟨g8, hg8⟩ : ∃ g8, w1.heap.size = g8 := ⟨_, rfl⟩
            have hbx : Below W0.heap.size W0 (w1.alloc (.cells #[.int .i64 (xx.q : Int), .int .u64 (xx.id : Int)] 61)) := HB1.out.trans ((below_box w1 _).mono HB1.out.size)
            have h8 : (w1.alloc (.cells #[.int .i64 (xx.q : Int), .int .u64 (xx.id : Int)] 61)).heap[w1.heap.size]? = some (.cells #[.int .i64 (xx.q : Int), .int .u64 (xx.id : Int)] 61 (0, 0)) := heap_alloc_last w1 _
            have hrw := HR1.out.below (below_box w1 (.cells #[.int .i64 (xx.q : Int), .int .u64 (xx.id : Int)] 61))
            have hs8 : w1.heap.size < (w1.alloc (.cells #[.int .i64 (xx.q : Int), .int .u64 (xx.id : Int)] 61)).heap.size := by simp
            have hg28 : g2 + 1 + 1 < w1.heap.size := Nat.lt_of_lt_of_le (lt_of_block HY.out) HB1.out.size
            generalize w1.alloc (.cells #[.int .i64 (xx.q : Int), .int .u64 (xx.id : Int)] 61) = W at hbx h8 hrw hs8 ⊢
            rw [hg8] at h8 hs8 hg28 ⊢
            have hx := (hbx.block _ (lt_of_block HX.out)).trans HX.out
            have x0 : W.cell? ⟨g2, 0, none⟩ = some (.slice (some ⟨b, 0, none⟩) G.length (k + 1)) := by rw [cell_of_row _ _ _ _ _ _ hx]; rfl
            have x0' := (World.cell?_alloc_lt W (.cells #[] 61) ⟨g2, 0, none⟩ (lt_of_block hx)).trans x0
            have hk1 : k ≤ (k + 1) := by omega
            have hk2 : k + 1 ≤ G.length := by omega
            have hk3 : k + 1 ≤ (k + 1) := by omega
            have hwr : IntKind.i64.wrap ((k : Int) + 1) = (k : Int) + 1 := by rw [IntKind.wrap_i64]; omega
            have hk4 : (0 : Int) ≤ (k : Int) + 1 := by omega
            have hk6 : (k : Int) ≤ (k : Int) + 1 := by omega
            have hk5 : (k : Int) + 1 ≤ (G.length : Int) := by omega
            have htn : ((k : Int) + 1).toNat = k + 1 := by omega
            
            have HE := Lib.hid (grow_lit0 W).draws
            have HRW := Lib.hid hrw
            have HRL := Lib.hid (hrw.below (below_box W (.cells #[] 61))).draws
            obtain ⟨G', hG'⟩ : ∃ G', G.eraseIdx k = G' := ⟨_, rfl⟩
            have HG' := Lib.hid hG'
            have hfx : ∀ w3 : World, Below W.heap.size W w3 → (w3.cell? ⟨g2, 0, none⟩ = some (.slice (some ⟨b, 0, none⟩) G.length (k + 1)) ∧ w3.cell? ⟨g2, 1, none⟩ = some (.int .i64 (t : Int)) ∧ w3.frozen? ⟨g2, 0, none⟩ = false ∧ w3.frozen? ⟨g2, 1, none⟩ = false ∧ w3.cell? ⟨g2 + 1, 0, none⟩ = some (.slice none 0 0) ∧ w3.cell? ⟨g2 + 1, 1, none⟩ = some (.int .i64 0) ∧ w3.frozen? ⟨g2 + 1, 0, none⟩ = false ∧ w3.frozen? ⟨g2 + 1, 1, none⟩ = false) ∧
                (w3.cell? ⟨g2 + 1 + 1, 0, none⟩ = some (.int .i64 0) ∧ w3.cell? ⟨g2 + 1 + 1, 1, none⟩ = some (.int .u64 0) ∧ w3.frozen? ⟨g2 + 1 + 1, 0, none⟩ = false ∧ w3.frozen? ⟨g2 + 1 + 1, 1, none⟩ = false ∧ w3.cell? ⟨g8, 0, none⟩ = some (.int .i64 (xx.q : Int)) ∧ w3.cell? ⟨g8, 1, none⟩ = some (.int .u64 (xx.id : Int))) := fun w3 h3 => by
              have hx := (hbx.block _ (lt_of_block HX.out)).trans HX.out
              have hz := (hbx.block _ (lt_of_block HZ.out)).trans HZ.out
              have hy := (hbx.block _ (lt_of_block HY.out)).trans HY.out
              replace hx := (h3.block _ (lt_of_block hx)).trans hx
              replace hz := (h3.block _ (lt_of_block hz)).trans hz
              replace hy := (h3.block _ (lt_of_block hy)).trans hy
              have h8' := (h3.block _ (lt_of_block h8)).trans h8
              exact ⟨⟨by rw [cell_of_row _ _ _ _ _ _ hx]; rfl, by rw [cell_of_row _ _ _ _ _ _ hx]; rfl, frozen_of_row _ _ _ _ _ hx, frozen_of_row _ _ _ _ _ hx, by rw [cell_of_row _ _ _ _ _ _ hz]; rfl, by rw [cell_of_row _ _ _ _ _ _ hz]; rfl, frozen_of_row _ _ _ _ _ hz, frozen_of_row _ _ _ _ _ hz⟩,
                ⟨by rw [cell_of_row _ _ _ _ _ _ hy]; rfl, by rw [cell_of_row _ _ _ _ _ _ hy]; rfl, frozen_of_row _ _ _ _ _ hy, frozen_of_row _ _ _ _ _ hy, by rw [cell_of_row _ _ _ _ _ _ h8']; rfl, by rw [cell_of_row _ _ _ _ _ _ h8']; rfl⟩⟩
            have HFX := Lib.hid hfx
            have n1 : g8 ≠ g2 := by omega
            have n2 : g8 ≠ g2 + 1 := by omega
            have n3 : g8 ≠ g2 + 1 + 1 := by omega
            have HW := Lib.hid hbx
            have H8 := Lib.hid h8
            have HS8 := Lib.hid (And.intro hs8 hg28)
            have HG8 := Lib.hid hg8
            clear hbx h8 hrw hs8 hg28 hg8 hx hfx hG'
            go_region_law ((first
              | (refine step_append_g rfl (.tmp 29) (.tmp 33) (by rfl) W.heap.size (.slice (some ⟨W.heap.size, 0, none⟩) 0 0) [] (G.take k) b 0 k (k + 1) (by simp; omega) (by rfl) (by rfl) HE.out (HRL.out.src.take k (by omega)) (by simp; omega) (by simp) ?_; intro v1 w2 ho1 hg1; rw [List.nil_append] at ho1; have HO1 := Lib.hid ho1; have HB2 := Lib.hid ((blw_draws ((Below.refl W.heap.size W).alloc (Nat.le_refl _) (.cells #[] 61)) 1).grown hg1 (by simp) (fun k hk => by simp [Value.ownBlock] at hk; omega)); have y0 : w2.cell? ⟨g2, 0, none⟩ = some (.slice (some ⟨b, 0, none⟩) G.length (k + 1)) := (HB2.out.cell (p := ⟨g2, 0, none⟩) (by have := HS8.out; show g2 < _; omega)).trans x0; clear ho1 hg1)
              | (refine step_append_g rfl (.tmp 34) (.tmp 39) (by rfl) W.heap.size v1 (G.take k) (G.drop (k + 1)) b 0 0 0 (by rw [List.length_drop]; omega) (by rfl) (by rfl) HO1.out (by rw [List.drop_eq_nil_of_le (by omega)]; exact Src.nil _ _ _) (by simp; omega) HB2.out.size ?_; intro v3 w3 ho3 hg3; rw [← List.eraseIdx_eq_take_drop_succ, HG'.out] at ho3; obtain ⟨A3, c3, rfl, _, _⟩ := ho3.form; have HB3 := Lib.hid (HB2.out.grown hg3 HB2.out.size (fun k hk => (HO1.out.row k hk).1)); have HO3 := Lib.hid ho3; obtain ⟨⟨a0, a1, a2, a3, a4, a5, a6, a7⟩, a8, a9, a10, a11, a12, a13⟩ := HFX.out w3 HB3.out; clear ho3 hg3)))
            all_goals go_wp2_with fail
            all_goals go_region
            all_goals
              go_wp2_with fail
              have hW0 : w.heap.size ≤ W.heap.size := Nat.le_trans HB0.out.size HW.out.size
              have hgw : w.heap.size = g2 := HG.out
              have hgl := HS8.out
              have hnb : ∀ j, j < W.heap.size → (Value.slice A3 G'.length c3).ownBlock ≠ some j := fun j hj e => by have := (HO3.out.row j e).1; omega
              refine bodyPost_ret (v := .tuple #[.agg #[.slice A3 G'.length c3, .int .i64 0], .agg #[.int .i64 (xx.q : Int), .int .u64 (xx.id : Int)], .bool true]) (by simp [results, Try.results22, go_sem, a4, a5, a8, a9]) rfl
                ⟨true, _, 0, xx, rfl, ⟨_, _, _, rfl⟩, (fun h => by cases h), fun _ => ⟨G', ?_, ?_, ?_, ?_⟩, ?_⟩
              · rw [HTK.out, HG'.out]
              · exact (((((((HO3.out.mono (base' := w.heap.size) (by omega)).set (hnb g2 (by omega)) _).set (hnb g2 (by omega)) _).set (hnb (g2 + 1) (by omega)) _).set (hnb (g2 + 1) (by omega)) _).set (hnb (g2 + 1 + 1) (by omega)) _).set (hnb (g2 + 1 + 1) (by omega)) _).draws
              · rw [← HG'.out]; exact List.eraseIdx_sublist _ _
              · rw [← HG'.out, List.length_eraseIdx_of_lt hk]; omega
              · exact blw_draws (((((((((HB0.out.trans (HW.out.mono HB0.out.size)).trans (HB3.out.mono hW0)).setCell (by show w.heap.size ≤ g2; omega) _).setCell (by show w.heap.size ≤ g2; omega) _).setCell (by show w.heap.size ≤ g2 + 1; omega) _).setCell (by show w.heap.size ≤ g2 + 1; omega) _).setCell (by show w.heap.size ≤ g2 + 1 + 1; omega) _).setCell (by show w.heap.size ≤ g2 + 1 + 1; omega) _)) 1
          · go_wp2_with fail
            obtain ⟨g8, hg8⟩ : ∃ g8, w1.heap.size = g8 := ⟨_, rfl⟩
            have hbx : Below W0.heap.size W0 (w1.alloc (.cells #[.int .i64 (xx.q : Int), .int .u64 (xx.id : Int)] 61)) := HB1.out.trans ((below_box w1 _).mono HB1.out.size)
            have h8 : (w1.alloc (.cells #[.int .i64 (xx.q : Int), .int .u64 (xx.id : Int)] 61)).heap[w1.heap.size]? = some (.cells #[.int .i64 (xx.q : Int), .int .u64 (xx.id : Int)] 61 (0, 0)) := heap_alloc_last w1 _
            have hrw := HR1.out.below (below_box w1 (.cells #[.int .i64 (xx.q : Int), .int .u64 (xx.id : Int)] 61))
            have hs8 : w1.heap.size < (w1.alloc (.cells #[.int .i64 (xx.q : Int), .int .u64 (xx.id : Int)] 61)).heap.size := by simp
            have hg28 : g2 + 1 + 1 < w1.heap.size := Nat.lt_of_lt_of_le (lt_of_block HY.out) HB1.out.size
            generalize w1.alloc (.cells #[.int .i64 (xx.q : Int), .int .u64 (xx.id : Int)] 61) = W at hbx h8 hrw hs8 ⊢
            rw [hg8] at h8 hs8 hg28 ⊢
            have hx := (hbx.block _ (lt_of_block HX.out)).trans HX.out
            have x0 : W.cell? ⟨g2, 0, none⟩ = some (.slice (some ⟨b, 0, none⟩) G.length cap) := by rw [cell_of_row _ _ _ _ _ _ hx]; rfl
            have x0' := (World.cell?_alloc_lt W (.cells #[] 61) ⟨g2, 0, none⟩ (lt_of_block hx)).trans x0
            have hk1 : k ≤ cap := by omega
            have hk2 : k + 1 ≤ G.length := by omega
            have hk3 : k + 1 ≤ cap := by omega
            have hwr : IntKind.i64.wrap ((k : Int) + 1) = (k : Int) + 1 := by rw [IntKind.wrap_i64]; omega
            have hk4 : (0 : Int) ≤ (k : Int) + 1 := by omega
            have hk6 : (k : Int) ≤ (k : Int) + 1 := by omega
            have hk5 : (k : Int) + 1 ≤ (G.length : Int) := by omega
            have htn : ((k : Int) + 1).toNat = k + 1 := by omega
            have hce2 : ¬ cap = k + 1 := by omega
            have HE := Lib.hid (grow_lit0 W).draws
            have HRW := Lib.hid hrw
            have HRL := Lib.hid (hrw.below (below_box W (.cells #[] 61))).draws
            obtain ⟨G', hG'⟩ : ∃ G', G.eraseIdx k = G' := ⟨_, rfl⟩
            have HG' := Lib.hid hG'
            have hfx : ∀ w3 : World, Below W.heap.size W w3 → (w3.cell? ⟨g2, 0, none⟩ = some (.slice (some ⟨b, 0, none⟩) G.length cap) ∧ w3.cell? ⟨g2, 1, none⟩ = some (.int .i64 (t : Int)) ∧ w3.frozen? ⟨g2, 0, none⟩ = false ∧ w3.frozen? ⟨g2, 1, none⟩ = false ∧ w3.cell? ⟨g2 + 1, 0, none⟩ = some (.slice none 0 0) ∧ w3.cell? ⟨g2 + 1, 1, none⟩ = some (.int .i64 0) ∧ w3.frozen? ⟨g2 + 1, 0, none⟩ = false ∧ w3.frozen? ⟨g2 + 1, 1, none⟩ = false) ∧
                (w3.cell? ⟨g2 + 1 + 1, 0, none⟩ = some (.int .i64 0) ∧ w3.cell? ⟨g2 + 1 + 1, 1, none⟩ = some (.int .u64 0) ∧ w3.frozen? ⟨g2 + 1 + 1, 0, none⟩ = false ∧ w3.frozen? ⟨g2 + 1 + 1, 1, none⟩ = false ∧ w3.cell? ⟨g8, 0, none⟩ = some (.int .i64 (xx.q : Int)) ∧ w3.cell? ⟨g8, 1, none⟩ = some (.int .u64 (xx.id : Int))) := fun w3 h3 => by
              have hx := (hbx.block _ (lt_of_block HX.out)).trans HX.out
              have hz := (hbx.block _ (lt_of_block HZ.out)).trans HZ.out
              have hy := (hbx.block _ (lt_of_block HY.out)).trans HY.out
              replace hx := (h3.block _ (lt_of_block hx)).trans hx
              replace hz := (h3.block _ (lt_of_block hz)).trans hz
              replace hy := (h3.block _ (lt_of_block hy)).trans hy
              have h8' := (h3.block _ (lt_of_block h8)).trans h8
              exact ⟨⟨by rw [cell_of_row _ _ _ _ _ _ hx]; rfl, by rw [cell_of_row _ _ _ _ _ _ hx]; rfl, frozen_of_row _ _ _ _ _ hx, frozen_of_row _ _ _ _ _ hx, by rw [cell_of_row _ _ _ _ _ _ hz]; rfl, by rw [cell_of_row _ _ _ _ _ _ hz]; rfl, frozen_of_row _ _ _ _ _ hz, frozen_of_row _ _ _ _ _ hz⟩,
                ⟨by rw [cell_of_row _ _ _ _ _ _ hy]; rfl, by rw [cell_of_row _ _ _ _ _ _ hy]; rfl, frozen_of_row _ _ _ _ _ hy, frozen_of_row _ _ _ _ _ hy, by rw [cell_of_row _ _ _ _ _ _ h8']; rfl, by rw [cell_of_row _ _ _ _ _ _ h8']; rfl⟩⟩
            have HFX := Lib.hid hfx
            have n1 : g8 ≠ g2 := by omega
            have n2 : g8 ≠ g2 + 1 := by omega
            have n3 : g8 ≠ g2 + 1 + 1 := by omega
            have HW := Lib.hid hbx
            have H8 := Lib.hid h8
            have HS8 := Lib.hid (And.intro hs8 hg28)
            have HG8 := Lib.hid hg8
            clear hbx h8 hrw hs8 hg28 hg8 hx hfx hG'
            go_region_law ((first
              | (refine step_append_g rfl (.tmp 29) (.tmp 33) (by rfl) W.heap.size (.slice (some ⟨W.heap.size, 0, none⟩) 0 0) [] (G.take k) b 0 k cap (by simp; omega) (by rfl) (by rfl) HE.out (HRL.out.src.take k (by omega)) (by simp; omega) (by simp) ?_; intro v1 w2 ho1 hg1; rw [List.nil_append] at ho1; have HO1 := Lib.hid ho1; have HB2 := Lib.hid ((blw_draws ((Below.refl W.heap.size W).alloc (Nat.le_refl _) (.cells #[] 61)) 1).grown hg1 (by simp) (fun k hk => by simp [Value.ownBlock] at hk; omega)); have y0 : w2.cell? ⟨g2, 0, none⟩ = some (.slice (some ⟨b, 0, none⟩) G.length cap) := (HB2.out.cell (p := ⟨g2, 0, none⟩) (by have := HS8.out; show g2 < _; omega)).trans x0; clear ho1 hg1)
              | (refine step_append_g rfl (.tmp 34) (.tmp 39) (by rfl) W.heap.size v1 (G.take k) (G.drop (k + 1)) b ((k + 1) * 2) (G.length - (k + 1)) (cap - (k + 1)) (by simp) (by rfl) (by rfl) HO1.out (Src.drop (GRow.src (HRW.out.below HB2.out)) (k + 1) (by omega)) (by simp; omega) HB2.out.size ?_; intro v3 w3 ho3 hg3; rw [← List.eraseIdx_eq_take_drop_succ, HG'.out] at ho3; obtain ⟨A3, c3, rfl, _, _⟩ := ho3.form; have HB3 := Lib.hid (HB2.out.grown hg3 HB2.out.size (fun k hk => (HO1.out.row k hk).1)); have HO3 := Lib.hid ho3; obtain ⟨⟨a0, a1, a2, a3, a4, a5, a6, a7⟩, a8, a9, a10, a11, a12, a13⟩ := HFX.out w3 HB3.out; clear ho3 hg3)))
            all_goals go_wp2_with fail
            all_goals go_region
            all_goals
              go_wp2_with fail
              have hW0 : w.heap.size ≤ W.heap.size := Nat.le_trans HB0.out.size HW.out.size
              have hgw : w.heap.size = g2 := HG.out
              have hgl := HS8.out
              have hnb : ∀ j, j < W.heap.size → (Value.slice A3 G'.length c3).ownBlock ≠ some j := fun j hj e => by have := (HO3.out.row j e).1; omega
              refine bodyPost_ret (v := .tuple #[.agg #[.slice A3 G'.length c3, .int .i64 0], .agg #[.int .i64 (xx.q : Int), .int .u64 (xx.id : Int)], .bool true]) (by simp [results, Try.results22, go_sem, a4, a5, a8, a9]) rfl
                ⟨true, _, 0, xx, rfl, ⟨_, _, _, rfl⟩, (fun h => by cases h), fun _ => ⟨G', ?_, ?_, ?_, ?_⟩, ?_⟩
              · rw [HTK.out, HG'.out]
              · exact (((((((HO3.out.mono (base' := w.heap.size) (by omega)).set (hnb g2 (by omega)) _).set (hnb g2 (by omega)) _).set (hnb (g2 + 1) (by omega)) _).set (hnb (g2 + 1) (by omega)) _).set (hnb (g2 + 1 + 1) (by omega)) _).set (hnb (g2 + 1 + 1) (by omega)) _).draws
              · rw [← HG'.out]; exact List.eraseIdx_sublist _ _
              · rw [← HG'.out, List.length_eraseIdx_of_lt hk]; omega
              · exact blw_draws (((((((((HB0.out.trans (HW.out.mono HB0.out.size)).trans (HB3.out.mono hW0)).setCell (by show w.heap.size ≤ g2; omega) _).setCell (by show w.heap.size ≤ g2; omega) _).setCell (by show w.heap.size ≤ g2 + 1; omega) _).setCell (by show w.heap.size ≤ g2 + 1; omega) _).setCell (by show w.heap.size ≤ g2 + 1 + 1; omega) _).setCell (by show w.heap.size ≤ g2 + 1 + 1; omega) _)) 1
        · have hd : ((q : Int) + 1 == 5) = false := by simp; omega
          by_cases hce : cap = k + 1
          · subst hce
            go_wp2_with fail
            obtain ⟨g8, hg8⟩ : ∃ g8, w1.heap.size = g8 := ⟨_, rfl⟩
            have hbx : Below W0.heap.size W0 (w1.alloc (.cells #[.int .i64 (xx.q : Int), .int .u64 (xx.id : Int)] 61)) := HB1.out.trans ((below_box w1 _).mono HB1.out.size)
            have h8 : (w1.alloc (.cells #[.int .i64 (xx.q : Int), .int .u64 (xx.id : Int)] 61)).heap[w1.heap.size]? = some (.cells #[.int .i64 (xx.q : Int), .int .u64 (xx.id : Int)] 61 (0, 0)) := heap_alloc_last w1 _
            have hrw := HR1.out.below (below_box w1 (.cells #[.int .i64 (xx.q : Int), .int .u64 (xx.id : Int)] 61))
            have hs8 : w1.heap.size < (w1.alloc (.cells #[.int .i64 (xx.q : Int), .int .u64 (xx.id : Int)] 61)).heap.size := by simp
            have hg28 : g2 + 1 + 1 < w1.heap.size := Nat.lt_of_lt_of_le (lt_of_block HY.out) HB1.out.size
            generalize w1.alloc (.cells #[.int .i64 (xx.q : Int), .int .u64 (xx.id : Int)] 61) = W at hbx h8 hrw hs8 ⊢
            rw [hg8] at h8 hs8 hg28 ⊢
            have hx := (hbx.block _ (lt_of_block HX.out)).trans HX.out
            have x0 : W.cell? ⟨g2, 0, none⟩ = some (.slice (some ⟨b, 0, none⟩) G.length (k + 1)) := by rw [cell_of_row _ _ _ _ _ _ hx]; rfl
            have x0' := (World.cell?_alloc_lt W (.cells #[] 61) ⟨g2, 0, none⟩ (lt_of_block hx)).trans x0
            have hk1 : k ≤ (k + 1) := by omega
            have hk2 : k + 1 ≤ G.length := by omega
            have hk3 : k + 1 ≤ (k + 1) := by omega
            have hwr : IntKind.i64.wrap ((k : Int) + 1) = (k : Int) + 1 := by rw [IntKind.wrap_i64]; omega
            have hk4 : (0 : Int) ≤ (k : Int) + 1 := by omega
            have hk6 : (k : Int) ≤ (k : Int) + 1 := by omega
            have hk5 : (k : Int) + 1 ≤ (G.length : Int) := by omega
            have htn : ((k : Int) + 1).toNat = k + 1 := by omega
            
            have HE := Lib.hid (grow_lit0 W).draws
            have HRW := Lib.hid hrw
            have HRL := Lib.hid (hrw.below (below_box W (.cells #[] 61))).draws
            obtain ⟨G', hG'⟩ : ∃ G', G.eraseIdx k = G' := ⟨_, rfl⟩
            have HG' := Lib.hid hG'
            have hfx : ∀ w3 : World, Below W.heap.size W w3 → (w3.cell? ⟨g2, 0, none⟩ = some (.slice (some ⟨b, 0, none⟩) G.length (k + 1)) ∧ w3.cell? ⟨g2, 1, none⟩ = some (.int .i64 (t : Int)) ∧ w3.frozen? ⟨g2, 0, none⟩ = false ∧ w3.frozen? ⟨g2, 1, none⟩ = false ∧ w3.cell? ⟨g2 + 1, 0, none⟩ = some (.slice none 0 0) ∧ w3.cell? ⟨g2 + 1, 1, none⟩ = some (.int .i64 0) ∧ w3.frozen? ⟨g2 + 1, 0, none⟩ = false ∧ w3.frozen? ⟨g2 + 1, 1, none⟩ = false) ∧
                (w3.cell? ⟨g2 + 1 + 1, 0, none⟩ = some (.int .i64 0) ∧ w3.cell? ⟨g2 + 1 + 1, 1, none⟩ = some (.int .u64 0) ∧ w3.frozen? ⟨g2 + 1 + 1, 0, none⟩ = false ∧ w3.frozen? ⟨g2 + 1 + 1, 1, none⟩ = false ∧ w3.cell? ⟨g8, 0, none⟩ = some (.int .i64 (xx.q : Int)) ∧ w3.cell? ⟨g8, 1, none⟩ = some (.int .u64 (xx.id : Int))) := fun w3 h3 => by
              have hx := (hbx.block _ (lt_of_block HX.out)).trans HX.out
              have hz := (hbx.block _ (lt_of_block HZ.out)).trans HZ.out
              have hy := (hbx.block _ (lt_of_block HY.out)).trans HY.out
              replace hx := (h3.block _ (lt_of_block hx)).trans hx
              replace hz := (h3.block _ (lt_of_block hz)).trans hz
              replace hy := (h3.block _ (lt_of_block hy)).trans hy
              have h8' := (h3.block _ (lt_of_block h8)).trans h8
              exact ⟨⟨by rw [cell_of_row _ _ _ _ _ _ hx]; rfl, by rw [cell_of_row _ _ _ _ _ _ hx]; rfl, frozen_of_row _ _ _ _ _ hx, frozen_of_row _ _ _ _ _ hx, by rw [cell_of_row _ _ _ _ _ _ hz]; rfl, by rw [cell_of_row _ _ _ _ _ _ hz]; rfl, frozen_of_row _ _ _ _ _ hz, frozen_of_row _ _ _ _ _ hz⟩,
                ⟨by rw [cell_of_row _ _ _ _ _ _ hy]; rfl, by rw [cell_of_row _ _ _ _ _ _ hy]; rfl, frozen_of_row _ _ _ _ _ hy, frozen_of_row _ _ _ _ _ hy, by rw [cell_of_row _ _ _ _ _ _ h8']; rfl, by rw [cell_of_row _ _ _ _ _ _ h8']; rfl⟩⟩
            have HFX := Lib.hid hfx
            have n1 : g8 ≠ g2 := by omega
            have n2 : g8 ≠ g2 + 1 := by omega
            have n3 : g8 ≠ g2 + 1 + 1 := by omega
            have HW := Lib.hid hbx
            have H8 := Lib.hid h8
            have HS8 := Lib.hid (And.intro hs8 hg28)
            have HG8 := Lib.hid hg8
            clear hbx h8 hrw hs8 hg28 hg8 hx hfx hG'
            go_region_law ((first
              | (refine step_append_g rfl (.tmp 29) (.tmp 33) (by rfl) W.heap.size (.slice (some ⟨W.heap.size, 0, none⟩) 0 0) [] (G.take k) b 0 k (k + 1) (by simp; omega) (by rfl) (by rfl) HE.out (HRL.out.src.take k (by omega)) (by simp; omega) (by simp) ?_; intro v1 w2 ho1 hg1; rw [List.nil_append] at ho1; have HO1 := Lib.hid ho1; have HB2 := Lib.hid ((blw_draws ((Below.refl W.heap.size W).alloc (Nat.le_refl _) (.cells #[] 61)) 1).grown hg1 (by simp) (fun k hk => by simp [Value.ownBlock] at hk; omega)); have y0 : w2.cell? ⟨g2, 0, none⟩ = some (.slice (some ⟨b, 0, none⟩) G.length (k + 1)) := (HB2.out.cell (p := ⟨g2, 0, none⟩) (by have := HS8.out; show g2 < _; omega)).trans x0; clear ho1 hg1)
              | (refine step_append_g rfl (.tmp 34) (.tmp 39) (by rfl) W.heap.size v1 (G.take k) (G.drop (k + 1)) b 0 0 0 (by rw [List.length_drop]; omega) (by rfl) (by rfl) HO1.out (by rw [List.drop_eq_nil_of_le (by omega)]; exact Src.nil _ _ _) (by simp; omega) HB2.out.size ?_; intro v3 w3 ho3 hg3; rw [← List.eraseIdx_eq_take_drop_succ, HG'.out] at ho3; obtain ⟨A3, c3, rfl, _, _⟩ := ho3.form; have HB3 := Lib.hid (HB2.out.grown hg3 HB2.out.size (fun k hk => (HO1.out.row k hk).1)); have HO3 := Lib.hid ho3; obtain ⟨⟨a0, a1, a2, a3, a4, a5, a6, a7⟩, a8, a9, a10, a11, a12, a13⟩ := HFX.out w3 HB3.out; clear ho3 hg3)))
            all_goals go_wp2_with fail
            all_goals go_region
            all_goals
              go_wp2_with fail
              have hW0 : w.heap.size ≤ W.heap.size := Nat.le_trans HB0.out.size HW.out.size
              have hgw : w.heap.size = g2 := HG.out
              have hgl := HS8.out
              have hnb : ∀ j, j < W.heap.size → (Value.slice A3 G'.length c3).ownBlock ≠ some j := fun j hj e => by have := (HO3.out.row j e).1; omega
              refine bodyPost_ret (v := .tuple #[.agg #[.slice A3 G'.length c3, .int .i64 ((q : Int) + 1)], .agg #[.int .i64 (xx.q : Int), .int .u64 (xx.id : Int)], .bool true]) (by simp [results, Try.results22, go_sem, a4, a5, a8, a9]) rfl
                ⟨true, _, (q + 1), xx, rfl, ⟨_, _, _, rfl⟩, (fun h => by cases h), fun _ => ⟨G', ?_, ?_, ?_, ?_⟩, ?_⟩
              · rw [HTK.out, HG'.out, Nat.mod_eq_of_lt (show q + 1 < 5 by omega)]
              · exact (((((((HO3.out.mono (base' := w.heap.size) (by omega)).set (hnb g2 (by omega)) _).set (hnb g2 (by omega)) _).set (hnb (g2 + 1) (by omega)) _).set (hnb (g2 + 1) (by omega)) _).set (hnb (g2 + 1 + 1) (by omega)) _).set (hnb (g2 + 1 + 1) (by omega)) _).draws
              · rw [← HG'.out]; exact List.eraseIdx_sublist _ _
              · rw [← HG'.out, List.length_eraseIdx_of_lt hk]; omega
              · exact blw_draws (((((((((HB0.out.trans (HW.out.mono HB0.out.size)).trans (HB3.out.mono hW0)).setCell (by show w.heap.size ≤ g2; omega) _).setCell (by show w.heap.size ≤ g2; omega) _).setCell (by show w.heap.size ≤ g2 + 1; omega) _).setCell (by show w.heap.size ≤ g2 + 1; omega) _).setCell (by show w.heap.size ≤ g2 + 1 + 1; omega) _).setCell (by show w.heap.size ≤ g2 + 1 + 1; omega) _)) 1
          · go_wp2_with fail
            obtain ⟨g8, hg8⟩ : ∃ g8, w1.heap.size = g8 := ⟨_, rfl⟩
            have hbx : Below W0.heap.size W0 (w1.alloc (.cells #[.int .i64 (xx.q : Int), .int .u64 (xx.id : Int)] 61)) := HB1.out.trans ((below_box w1 _).mono HB1.out.size)
            have h8 : (w1.alloc (.cells #[.int .i64 (xx.q : Int), .int .u64 (xx.id : Int)] 61)).heap[w1.heap.size]? = some (.cells #[.int .i64 (xx.q : Int), .int .u64 (xx.id : Int)] 61 (0, 0)) := heap_alloc_last w1 _
            have hrw := HR1.out.below (below_box w1 (.cells #[.int .i64 (xx.q : Int), .int .u64 (xx.id : Int)] 61))
            have hs8 : w1.heap.size < (w1.alloc (.cells #[.int .i64 (xx.q : Int), .int .u64 (xx.id : Int)] 61)).heap.size := by simp
            have hg28 : g2 + 1 + 1 < w1.heap.size := Nat.lt_of_lt_of_le (lt_of_block HY.out) HB1.out.size
            generalize w1.alloc (.cells #[.int .i64 (xx.q : Int), .int .u64 (xx.id : Int)] 61) = W at hbx h8 hrw hs8 ⊢
            rw [hg8] at h8 hs8 hg28 ⊢
            have hx := (hbx.block _ (lt_of_block HX.out)).trans HX.out
            have x0 : W.cell? ⟨g2, 0, none⟩ = some (.slice (some ⟨b, 0, none⟩) G.length cap) := by rw [cell_of_row _ _ _ _ _ _ hx]; rfl
            have x0' := (World.cell?_alloc_lt W (.cells #[] 61) ⟨g2, 0, none⟩ (lt_of_block hx)).trans x0
            have hk1 : k ≤ cap := by omega
            have hk2 : k + 1 ≤ G.length := by omega
            have hk3 : k + 1 ≤ cap := by omega
            have hwr : IntKind.i64.wrap ((k : Int) + 1) = (k : Int) + 1 := by rw [IntKind.wrap_i64]; omega
            have hk4 : (0 : Int) ≤ (k : Int) + 1 := by omega
            have hk6 : (k : Int) ≤ (k : Int) + 1 := by omega
            have hk5 : (k : Int) + 1 ≤ (G.length : Int) := by omega
            have htn : ((k : Int) + 1).toNat = k + 1 := by omega
            have hce2 : ¬ cap = k + 1 := by omega
            have HE := Lib.hid (grow_lit0 W).draws
            have HRW := Lib.hid hrw
            have HRL := Lib.hid (hrw.below (below_box W (.cells #[] 61))).draws
            obtain ⟨G', hG'⟩ : ∃ G', G.eraseIdx k = G' := ⟨_, rfl⟩
            have HG' := Lib.hid hG'
            have hfx : ∀ w3 : World, Below W.heap.size W w3 → (w3.cell? ⟨g2, 0, none⟩ = some (.slice (some ⟨b, 0, none⟩) G.length cap) ∧ w3.cell? ⟨g2, 1, none⟩ = some (.int .i64 (t : Int)) ∧ w3.frozen? ⟨g2, 0, none⟩ = false ∧ w3.frozen? ⟨g2, 1, none⟩ = false ∧ w3.cell? ⟨g2 + 1, 0, none⟩ = some (.slice none 0 0) ∧ w3.cell? ⟨g2 + 1, 1, none⟩ = some (.int .i64 0) ∧ w3.frozen? ⟨g2 + 1, 0, none⟩ = false ∧ w3.frozen? ⟨g2 + 1, 1, none⟩ = false) ∧
                (w3.cell? ⟨g2 + 1 + 1, 0, none⟩ = some (.int .i64 0) ∧ w3.cell? ⟨g2 + 1 + 1, 1, none⟩ = some (.int .u64 0) ∧ w3.frozen? ⟨g2 + 1 + 1, 0, none⟩ = false ∧ w3.frozen? ⟨g2 + 1 + 1, 1, none⟩ = false ∧ w3.cell? ⟨g8, 0, none⟩ = some (.int .i64 (xx.q : Int)) ∧ w3.cell? ⟨g8, 1, none⟩ = some (.int .u64 (xx.id : Int))) := fun w3 h3 => by
              have hx := (hbx.block _ (lt_of_block HX.out)).trans HX.out
              have hz := (hbx.block _ (lt_of_block HZ.out)).trans HZ.out
              have hy := (hbx.block _ (lt_of_block HY.out)).trans HY.out
              replace hx := (h3.block _ (lt_of_block hx)).trans hx
              replace hz := (h3.block _ (lt_of_block hz)).trans hz
              replace hy := (h3.block _ (lt_of_block hy)).trans hy
              have h8' := (h3.block _ (lt_of_block h8)).trans h8
              exact ⟨⟨by rw [cell_of_row _ _ _ _ _ _ hx]; rfl, by rw [cell_of_row _ _ _ _ _ _ hx]; rfl, frozen_of_row _ _ _ _ _ hx, frozen_of_row _ _ _ _ _ hx, by rw [cell_of_row _ _ _ _ _ _ hz]; rfl, by rw [cell_of_row _ _ _ _ _ _ hz]; rfl, frozen_of_row _ _ _ _ _ hz, frozen_of_row _ _ _ _ _ hz⟩,
                ⟨by rw [cell_of_row _ _ _ _ _ _ hy]; rfl, by rw [cell_of_row _ _ _ _ _ _ hy]; rfl, frozen_of_row _ _ _ _ _ hy, frozen_of_row _ _ _ _ _ hy, by rw [cell_of_row _ _ _ _ _ _ h8']; rfl, by rw [cell_of_row _ _ _ _ _ _ h8']; rfl⟩⟩
            have HFX := Lib.hid hfx
            have n1 : g8 ≠ g2 := by omega
            have n2 : g8 ≠ g2 + 1 := by omega
            have n3 : g8 ≠ g2 + 1 + 1 := by omega
            have HW := Lib.hid hbx
            have H8 := Lib.hid h8
            have HS8 := Lib.hid (And.intro hs8 hg28)
            have HG8 := Lib.hid hg8
            clear hbx h8 hrw hs8 hg28 hg8 hx hfx hG'
            go_region_law ((first
              | (refine step_append_g rfl (.tmp 29) (.tmp 33) (by rfl) W.heap.size (.slice (some ⟨W.heap.size, 0, none⟩) 0 0) [] (G.take k) b 0 k cap (by simp; omega) (by rfl) (by rfl) HE.out (HRL.out.src.take k (by omega)) (by simp; omega) (by simp) ?_; intro v1 w2 ho1 hg1; rw [List.nil_append] at ho1; have HO1 := Lib.hid ho1; have HB2 := Lib.hid ((blw_draws ((Below.refl W.heap.size W).alloc (Nat.le_refl _) (.cells #[] 61)) 1).grown hg1 (by simp) (fun k hk => by simp [Value.ownBlock] at hk; omega)); have y0 : w2.cell? ⟨g2, 0, none⟩ = some (.slice (some ⟨b, 0, none⟩) G.length cap) := (HB2.out.cell (p := ⟨g2, 0, none⟩) (by have := HS8.out; show g2 < _; omega)).trans x0; clear ho1 hg1)
              | (refine step_append_g rfl (.tmp 34) (.tmp 39) (by rfl) W.heap.size v1 (G.take k) (G.drop (k + 1)) b ((k + 1) * 2) (G.length - (k + 1)) (cap - (k + 1)) (by simp) (by rfl) (by rfl) HO1.out (Src.drop (GRow.src (HRW.out.below HB2.out)) (k + 1) (by omega)) (by simp; omega) HB2.out.size ?_; intro v3 w3 ho3 hg3; rw [← List.eraseIdx_eq_take_drop_succ, HG'.out] at ho3; obtain ⟨A3, c3, rfl, _, _⟩ := ho3.form; have HB3 := Lib.hid (HB2.out.grown hg3 HB2.out.size (fun k hk => (HO1.out.row k hk).1)); have HO3 := Lib.hid ho3; obtain ⟨⟨a0, a1, a2, a3, a4, a5, a6, a7⟩, a8, a9, a10, a11, a12, a13⟩ := HFX.out w3 HB3.out; clear ho3 hg3)))
            all_goals go_wp2_with fail
            all_goals go_region
            all_goals
              go_wp2_with fail
              have hW0 : w.heap.size ≤ W.heap.size := Nat.le_trans HB0.out.size HW.out.size
              have hgw : w.heap.size = g2 := HG.out
              have hgl := HS8.out
              have hnb : ∀ j, j < W.heap.size → (Value.slice A3 G'.length c3).ownBlock ≠ some j := fun j hj e => by have := (HO3.out.row j e).1; omega
              refine bodyPost_ret (v := .tuple #[.agg #[.slice A3 G'.length c3, .int .i64 ((q : Int) + 1)], .agg #[.int .i64 (xx.q : Int), .int .u64 (xx.id : Int)], .bool true]) (by simp [results, Try.results22, go_sem, a4, a5, a8, a9]) rfl
                ⟨true, _, (q + 1), xx, rfl, ⟨_, _, _, rfl⟩, (fun h => by cases h), fun _ => ⟨G', ?_, ?_, ?_, ?_⟩, ?_⟩
              · rw [HTK.out, HG'.out, Nat.mod_eq_of_lt (show q + 1 < 5 by omega)]
              · exact (((((((HO3.out.mono (base' := w.heap.size) (by omega)).set (hnb g2 (by omega)) _).set (hnb g2 (by omega)) _).set (hnb (g2 + 1) (by omega)) _).set (hnb (g2 + 1) (by omega)) _).set (hnb (g2 + 1 + 1) (by omega)) _).set (hnb (g2 + 1 + 1) (by omega)) _).draws
              · rw [← HG'.out]; exact List.eraseIdx_sublist _ _
              · rw [← HG'.out, List.length_eraseIdx_of_lt hk]; omega
              · exact blw_draws (((((((((HB0.out.trans (HW.out.mono HB0.out.size)).trans (HB3.out.mono hW0)).setCell (by show w.heap.size ≤ g2; omega) _).setCell (by show w.heap.size ≤ g2; omega) _).setCell (by show w.heap.size ≤ g2 + 1; omega) _).setCell (by show w.heap.size ≤ g2 + 1; omega) _).setCell (by show w.heap.size ≤ g2 + 1 + 1; omega) _).setCell (by show w.heap.size ≤ g2 + 1 + 1; omega) _)) 1
    · obtain rfl : i = 5 := by omega
      have hpi := HP.out
      simp only [pickFrom, Nat.sub_self] at hpi
      have hnone := takeF_no (HPK.out.trans hpi.symm)
      clear hpi
      go_wp2_with fail
      refine bodyPost_ret (v := .tuple #[.agg #[.slice A G.length cap, .int .i64 (t : Int)], .agg #[.int .i64 0, .int .u64 0], .bool false]) (by simp [results, Try.results22, go_sem, z0, z1, y0, y1]) rfl
        ⟨false, _, t, ⟨0, 0⟩, rfl, ⟨_, _, _, rfl⟩, fun _ => hnone, (fun h => by cases h), ?_⟩
      have := HG.out
      exact ((((HB0.out.trans (HB.out.mono HB0.out.size)).setCell (by show w.heap.size ≤ g2 + 1; omega) _).setCell (by show w.heap.size ≤ g2 + 1; omega) _).setCell (by show w.heap.size ≤ g2 + 1 + 1; omega) _).setCell (by show w.heap.size ≤ g2 + 1 + 1; omega) _
end Go.Proofs.Ytacddiidldppnaa
