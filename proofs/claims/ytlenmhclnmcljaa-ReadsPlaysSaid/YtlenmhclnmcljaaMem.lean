/- What a list of reads is in memory: a block of two cells (the slice, how many are begun) and the row of the reads' own three numbers each; what stays when a call is behind. -/
import Derived.Test.YtlenmhclnmcljaaProg
import Derived.WalkKit
import Derived.WalkSpells
import Derived.WalkLawsBesides
import Derived.Deep.QuietTactic
import Derived.BigQuiet
import Derived.Deep.WholeRow
import Derived.Deep.AppendLies
import Derived.Lib.Hide
namespace Go.Proofs.Ytlenmhclnmcljaa
open Go.RowKit

/-- A read: its Id, its index, its round. -/
structure Rd where
  id : Nat
  ix : Nat
  rd : Nat

/-- Its cells. -/
def Rd.cells (r : Rd) : List Value := [.int .u64 (r.id : Int), .int .u64 (r.ix : Int), .int .u64 (r.rd : Int)]
/-- Its value. -/
def Rd.val (r : Rd) : Value := .agg #[.int .u64 (r.id : Int), .int .u64 (r.ix : Int), .int .u64 (r.rd : Int)]
/-- The cells of a row of them. -/
def row (L : List Rd) : List Value := L.flatMap Rd.cells

theorem row_length (L : List Rd) : (row L).length = L.length * 3 := by
  induction L with
  | nil => rfl
  | cons r L ih => unfold row at *; rw [List.flatMap_cons, List.length_append, ih, List.length_cons]; simp [Rd.cells]; omega
theorem row_append (L M : List Rd) : row (L ++ M) = row L ++ row M := List.flatMap_append
theorem row_at (L : List Rd) : ∀ (k j : Nat) (h : k < L.length), j < 3 → (row L)[k * 3 + j]? = (L[k].cells)[j]? := by
  induction L with
  | nil => intro k j h; simp at h
  | cons r L ih =>
    intro k j h hj
    have e : row (r :: L) = r.cells ++ row L := List.flatMap_cons
    rw [e]
    cases k with
    | zero => rw [List.getElem?_append_left (by simp [Rd.cells]; omega)]; simp
    | succ k =>
      rw [List.getElem?_append_right (by simp [Rd.cells]; omega)]
      have := ih k j (by simpa using h) hj
      rw [show (k + 1) * 3 + j - r.cells.length = k * 3 + j by simp [Rd.cells]; omega, this]
      simp

/-- Every number of a read fits. -/
def Rd.fits (r : Rd) : Prop := r.id ≤ 18446744073709551615 ∧ r.ix ≤ 18446744073709551615 ∧ r.rd ≤ 18446744073709551615

/-- The list of reads at block g: the reads L, the first b of them begun; its own blocks are from B on. -/
structure ReadsAt (B : Nat) (w : World) (g : Nat) (v : Value) (L : List Rd) (b : Nat) : Prop where
  base : B ≤ g
  head : w.heap[g]? = some (.cells #[v, .int .i64 (b : Int)] 43 (0, 0))
  own : w.ownsRow B 32 3 v L.length (row L)
  le : b ≤ L.length
  fits : ∀ r ∈ L, r.fits

/-- Blocks of other types than a list of reads has are as they were. -/
def Aside (w w' : World) : Prop := ∀ (k : Nat) (c : Array Value) (t : TypeId) (fr : Nat × Nat), w.heap[k]? = some (Obj.cells c t fr) → t ≠ 43 → t ≠ 32 → w'.heap[k]? = some (Obj.cells c t fr)

theorem Aside.refl (w : World) : Aside w w := fun _ _ _ _ h _ _ => h
theorem Aside.trans {a b c : World} (h : Aside a b) (k : Aside b c) : Aside a c := fun i x t fr hi h1 h2 => k i x t fr (h i x t fr hi h1 h2) h1 h2
theorem lt_of_block {w : World} {k : Nat} {o : Obj} (h : w.heap[k]? = some o) : k < w.heap.size := (Array.getElem?_eq_some_iff.1 h).1
theorem Aside.of_below {w w' : World} (h : Below w.heap.size w w') : Aside w w' := fun k _ _ _ hk _ _ => (h.block k (lt_of_block hk)).trans hk
theorem Aside.alloc (w : World) (o : Obj) : Aside w (w.alloc o) := Aside.of_below ((Below.refl _ _).alloc (Nat.le_refl _) o)
theorem Aside.draws (w : World) (q : Nat) : Aside w (w.drewN q) := fun _ _ _ _ h _ _ => h

theorem blw_draws {B : Nat} {a w : World} (h : Below B a w) (q : Nat) : Below B a (w.drewN q) := ⟨h.os, h.tape, h.output, h.size, h.block⟩
theorem blw_trans {B : Nat} {a b c : World} (h : Below B a b) (hB : B ≤ b.heap.size) (k : Below b.heap.size b c) : Below B a c := h.trans (k.mono hB)

theorem ownsRow_of_heap {w w' : World} {base : Nat} {e : TypeId} {size n : Nat} {v : Value} {xs : List Value} (h : w.ownsRow base e size v n xs) (hb : ∀ k, v.ownBlock = some k → w'.heap[k]? = w.heap[k]?) : w'.ownsRow base e size v n xs := by
  refine ⟨h.1, ?_⟩
  rcases h.2 with h2 | ⟨g, cap, cur, rfl, h3, h4, h5⟩
  · exact .inl h2
  · exact .inr ⟨g, cap, cur, rfl, h3, (hb g rfl).trans h4, h5⟩

/-- A list of reads stays behind what keeps its blocks. -/
theorem ReadsAt.kept {B : Nat} {w w' : World} {g : Nat} {v : Value} {L : List Rd} {b : Nat} (h : ReadsAt B w g v L b) (hb : ∀ k, k < w.heap.size → w'.heap[k]? = w.heap[k]?) : ReadsAt B w' g v L b :=
  ⟨h.base, (hb g (lt_of_block h.head)).trans h.head, ownsRow_of_heap h.own fun k hk => hb k (h.own.lt k hk).2, h.le, h.fits⟩
theorem ReadsAt.below {B : Nat} {w w' : World} {g : Nat} {v : Value} {L : List Rd} {b : Nat} (h : ReadsAt B w g v L b) (hb : Below w.heap.size w w') : ReadsAt B w' g v L b := h.kept fun k hk => hb.block k hk
theorem ReadsAt.cell0 {B : Nat} {w : World} {g : Nat} {v : Value} {L : List Rd} {b : Nat} (h : ReadsAt B w g v L b) : w.cell? ⟨g, 0, none⟩ = some v := by
  rw [cell_of_row _ _ _ _ _ _ h.head]; rfl
theorem ReadsAt.cell1 {B : Nat} {w : World} {g : Nat} {v : Value} {L : List Rd} {b : Nat} (h : ReadsAt B w g v L b) : w.cell? ⟨g, 1, none⟩ = some (.int .i64 (b : Int)) := by
  rw [cell_of_row _ _ _ _ _ _ h.head]; rfl
theorem ReadsAt.frozen {B : Nat} {w : World} {g : Nat} {v : Value} {L : List Rd} {b : Nat} (h : ReadsAt B w g v L b) (i : Nat) : w.frozen? ⟨g, i, none⟩ = false := frozen_of_row _ _ _ _ _ h.head
/-- The slice, written out; its elements' cells. -/
theorem own_form {w : World} {base : Nat} {v : Value} {L : List Rd} (h : w.ownsRow base 32 3 v L.length (row L)) :
    ∃ A cap, v = .slice A L.length cap ∧ L.length ≤ cap ∧ ∀ k (hk : k < L.length), ∃ hb, A = some ⟨hb, 0, none⟩ ∧ base ≤ hb ∧ hb < w.heap.size ∧
      w.cell? ⟨hb, k * 3, none⟩ = some (.int .u64 (L[k].id : Int)) ∧ w.cell? ⟨hb, k * 3 + 1, none⟩ = some (.int .u64 (L[k].ix : Int)) ∧ w.cell? ⟨hb, k * 3 + 2, none⟩ = some (.int .u64 (L[k].rd : Int)) := by
  rcases h.2 with ⟨rfl, h0⟩ | ⟨g, cap, cur, rfl, h3, h4, h5, h6, h7, h8⟩
  · refine ⟨none, 0, by rw [h0], by omega, fun k hk => by omega⟩
  · refine ⟨_, cap, rfl, h5, fun k hk => ⟨g, rfl, h3, lt_of_block h4, ?_, ?_, ?_⟩⟩
    · rw [h.cellAt (k * 3) (by omega)]; have := row_at L k 0 hk (by omega); simpa [Rd.cells] using this
    · rw [h.cellAt (k * 3 + 1) (by omega)]; have := row_at L k 1 hk (by omega); simpa [Rd.cells] using this
    · rw [h.cellAt (k * 3 + 2) (by omega)]; have := row_at L k 2 hk (by omega); simpa [Rd.cells] using this

theorem ret_bool {a b : Bool} (h : a = b) : Ending.returned (.bool a) = .returned (.bool b) := by rw [h]
theorem ret_int {k : IntKind} {a b : Int} (h : a = b) : Ending.returned (.int k a) = .returned (.int k b) := by rw [h]

set_option maxHeartbeats 400000 in
/-- New: an empty list. -/
theorem new_any (w : World) :
    Calls Try.prog 7 #[] w fun e w' => ∃ g, e = .returned (.pointer (some ⟨g, 0, none⟩)) ∧ ReadsAt w.heap.size w' g (.slice none 0 0) [] 0 ∧ Below w.heap.size w w' := by
  go_enter Try.func7, Try.ntmps7
  go_wp2
  go_ret
  exact ⟨w.heap.size, rfl, ⟨Nat.le_refl _, heap_alloc_last w _, World.ownsRow_nil _ _ _ _, Nat.le_refl _, fun r hr => by cases hr⟩, (Below.refl _ _).alloc (Nat.le_refl _) _⟩

set_option maxHeartbeats 400000 in
/-- The closure that Ask hands on: is this its Id? -/
theorem asked_any (r : Rd) (p : Addr) (id : Nat) (w : World) (hp : w.cell? p = some (.int .u64 (id : Int))) :
    Calls Try.prog 18 #[r.val, .pointer (some p)] w fun e w' => e = .returned (.bool (decide (r.id = id))) ∧ Below w.heap.size w w' := by
  have hlt := World.block_lt_of_cell? w _ hp
  unfold Rd.val
  go_enter Try.func18, Try.ntmps18
  go_wp2
  go_ret
  have e : (((r.id : Nat) : Int) == ((id : Nat) : Int)) = decide (r.id = id) := by rw [Bool.eq_iff_iff, beq_iff_eq, decide_eq_true_eq]; omega
  exact ⟨ret_bool e, (Below.refl _ _).alloc (Nat.le_refl _) _⟩

/-- Has a read this Id? -/
def isId (id : Nat) (r : Rd) : Bool := decide (r.id = id)

set_option maxHeartbeats 400000 in
theorem index_any (v : Value) (base : Nat) (L : List Rd) (p : Addr) (id : Nat) (w : World) (hp : w.cell? p = some (.int .u64 (id : Int))) (hv : w.ownsRow base 32 3 v L.length (row L)) (hn : L.length ≤ 9223372036854775807) :
    Calls Try.prog 24 #[v, .func (.func 18) #[] #[.pointer (some p)]] w fun e w' => (∃ i : Int, e = .returned (.int .i64 i) ∧ (0 ≤ i ↔ L.any (isId id) = true)) ∧ Below w.heap.size w w' := by
  obtain ⟨A, cap, rfl, _, hc⟩ := own_form hv
  go_enter Try.func24, Try.ntmps24
  go_wp2
  go_loopw [8] (fun i wr => ∃ k : Nat, k ≤ L.length ∧ i = .int .i64 k ∧ Below w.heap.size w wr ∧ Hid ((L.take k).any (isId id) = false)) (fun i _ => L.length - (intOf i).toNat)
  case atStart => exact ⟨0, Nat.zero_le _, rfl, Below.refl _ _, rfl⟩
  case round =>
    obtain ⟨k, hk, rfl, hb, HA⟩ := hrel
    have hp' : wr.cell? p = some (.int .u64 (id : Int)) := (hb.cell (World.block_lt_of_cell? w _ hp)).trans hp
    clear hp
    by_cases hlt : k < L.length
    · obtain ⟨g, rfl, _, hgl, h0, h1, h2⟩ := hc k hlt
      have h0' := (hb.cell (p := ⟨g, k * 3, none⟩) hgl).trans h0
      have h1' := (hb.cell (p := ⟨g, k * 3 + 1, none⟩) hgl).trans h1
      have h2' := (hb.cell (p := ⟨g, k * 3 + 2, none⟩) hgl).trans h2
      obtain ⟨r, hr⟩ : ∃ r, L[k] = r := ⟨_, rfl⟩
      rw [hr] at h0' h1' h2'
      have HR := Lib.hid hr
      clear h0 h1 h2 hr hc hv
      go_wp2_with fail
      refine (asked_any r p id _ hp').mono ?_
      rintro e w1 ⟨rfl, hb1⟩
      have hb2 := blw_trans hb hb.size hb1
      by_cases hid : r.id = id
      · have hd : decide (r.id = id) = true := decide_eq_true hid
        rw [hd]
        have HD := Lib.hid hid
        clear hd hid
        go_wp2
        go_ret
        refine ⟨⟨k, rfl, ⟨fun _ => ?_, fun _ => by omega⟩⟩, hb2⟩
        rw [List.any_eq_true]
        exact ⟨L[k], List.getElem_mem _, by rw [HR.out]; exact decide_eq_true HD.out⟩
      · have hd : decide (r.id = id) = false := decide_eq_false hid
        rw [hd]
        have HD := Lib.hid hd
        clear hd hid
        go_wp2
        go_roundw
        case rel =>
          refine ⟨k + 1, by omega, by go_num, hb2, Lib.hid ?_⟩
          rw [List.take_succ_eq_append_getElem hlt, List.any_append, HA.out, HR.out]
          simp [isId, HD.out]
        case measure => simp [intOf]; omega
    · obtain rfl : k = L.length := by omega
      go_wp2
      go_ret
      refine ⟨⟨-1, rfl, ?_⟩, hb⟩
      have := HA.out
      rw [List.take_length] at this
      rw [this]
      simp

set_option maxHeartbeats 400000 in
/-- Has one of them this Id? -/
theorem contains_any (v : Value) (base : Nat) (L : List Rd) (p : Addr) (id : Nat) (w : World) (hp : w.cell? p = some (.int .u64 (id : Int))) (hv : w.ownsRow base 32 3 v L.length (row L)) (hn : L.length ≤ 9223372036854775807) :
    Calls Try.prog 17 #[v, .func (.func 18) #[] #[.pointer (some p)]] w fun e w' => e = .returned (.bool (L.any (isId id))) ∧ Below w.heap.size w w' := by
  go_enter Try.func17, Try.ntmps17
  go_wp2_with fail
  refine (index_any v base L p id _ hp hv hn).mono ?_
  rintro e w1 ⟨⟨i, rfl, hi⟩, hb⟩
  have HI := Lib.hid hi
  clear hi
  go_wp2_with fail
  go_ret
  refine ⟨ret_bool ?_, hb⟩
  have := HI.out
  rw [Bool.eq_iff_iff, ← this]
  simp

theorem info32 : (Try.prog.info? 32).map (fun i => (i.zero, i.size, i.bytes)) = some (some (.agg #[.int .u64 0, .int .u64 0, .int .u64 0]), 3, 24) := by kernel_rfl

/-- The cells that a slice shows, wherever it begins. -/
def Src (w : World) (A : Option Addr) (L : List Rd) : Prop := 0 < L.length → ∃ ad, A = some ad ∧ ∀ j u, (row L)[j]? = some u → w.cell? (ad.add j) = some u
theorem row_one (L : List Rd) : ∀ u ∈ row L, u.oneCell' = true := by
  intro u hu
  unfold row at hu
  rw [List.mem_flatMap] at hu
  obtain ⟨r, _, hr⟩ := hu
  unfold Rd.cells at hr
  simp at hr
  rcases hr with rfl | rfl | rfl <;> rfl

set_option maxHeartbeats 400000 in
/-- Clone: a row of the call's own with the same reads. -/
theorem clone_any (A : Option Addr) (cap : Nat) (L : List Rd) (w : World) (hs : Src w A L) (hn : L.length ≤ 1000) :
    Calls Try.prog 19 #[.slice A L.length cap] w fun e w' => ∃ v, e = .returned v ∧ w'.ownsRow w.heap.size 32 3 v L.length (row L) ∧ Below w.heap.size w w' := by
  obtain ⟨i0, hi, hz0, hz1, hz2⟩ := info_parts info32
  have hnil := fun (w : World) (A : Option Addr) (n c : Nat) => Lib.run_eql_slice_nil (P := Try.prog) w 29 32 A n c 0 0 Try.underlying29
  cases A with
  | none =>
    have h0 : L = [] := by
      rcases Nat.eq_zero_or_pos L.length with h | h
      · exact List.eq_nil_of_length_eq_zero h
      · obtain ⟨_, h, _⟩ := hs h; cases h
    subst h0
    go_enter Try.func19, Try.ntmps19
    go_wp2_with fail
    go_ret
    exact ⟨_, rfl, World.ownsRow_nil _ _ _ _, Below.refl _ _⟩
  | some ad =>
    have hcells : ∀ j u, (row L)[j]? = some u → w.cell? (ad.add j) = some u := fun j u hj => by
      have hpos : 0 < L.length := by
        rcases Nat.eq_zero_or_pos L.length with h | h
        · rw [List.eq_nil_of_length_eq_zero h] at hj; simp [row] at hj
        · exact h
      obtain ⟨ad', e, h⟩ := hs hpos
      cases e
      exact h j u hj
    have hlen := row_length L
    have HL := Lib.hid hlen
    have HH := Lib.hid hcells
    clear hlen hcells hs
    have hown : (w.alloc (.cells #[] 32)).ownsRow w.heap.size 32 3 (.slice (some ⟨w.heap.size, 0, none⟩) 0 0) 0 [] :=
      ⟨rfl, .inr ⟨w.heap.size, 0, #[], rfl, Nat.le_refl _, heap_alloc_last w _, Nat.le_refl _, by unfold maxLen; omega, rfl, rfl⟩⟩
    have hnews : ∀ j u, (row L)[j]? = some u → (w.alloc (.cells #[] 32)).cell? (ad.add j) = some u := fun j u hj =>
      (World.cell?_alloc_lt w _ _ (World.block_lt_of_cell? w _ (HH.out j u hj))).trans (HH.out j u hj)
    have HN := Lib.hid hnews
    have HO := Lib.hid hown
    clear hnews hown
    go_enter Try.func19, Try.ntmps19
    go_wp2_with (at_builtin; refine wpList_append_own _ rfl (.tmp 5) (.tmp 6) 29 rfl w.heap.size 32 i0 _ 3 24 Try.underlying29 hi hz0 hz1 hz2 rfl (by decide) (.slice (some ⟨w.heap.size, 0, none⟩) 0 0) 0 [] rfl HO.out ad L.length cap (row L) rfl HL.out HN.out (row_one L) (by unfold maxLen; omega) (by omega) (by simp) ?_; intro v' w1 hown1 hgrow _)
    go_ret
    refine ⟨v', rfl, by simpa using hown1, ?_⟩
    exact ((Below.refl _ _).alloc (Nat.le_refl _) _).grown hgrow (by simp) (fun k hk => by simp [Value.ownBlock] at hk; omega)
end Go.Proofs.Ytlenmhclnmcljaa
