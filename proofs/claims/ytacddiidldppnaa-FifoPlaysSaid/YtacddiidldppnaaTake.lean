/- What a take, a drain and a drop are, in plain Lean; the walk of takes. -/
import Derived.Test.YtacddiidldppnaaPut
namespace Go.Proofs.Ytacddiidldppnaa
open Go.RowKit

/-- Whose turn it is, of n queues from the i-th on: the first that has any. -/
def pickFrom (Q : Nat → List Nat) (t : Nat) : Nat → Nat → Option Nat
  | _, 0 => none
  | i, n + 1 => if Q ((t + i) % 5) = [] then pickFrom Q t (i + 1) n else some ((t + i) % 5)
def pick (Q : Nat → List Nat) (t : Nat) : Option Nat := pickFrom Q t 0 5
theorem pickFrom_lt (Q : Nat → List Nat) (t : Nat) : ∀ n i q, pickFrom Q t i n = some q → q < 5 ∧ Q q ≠ []
  | n + 1, i, q, h => by
    unfold pickFrom at h
    by_cases e : Q ((t + i) % 5) = []
    · rw [if_pos e] at h; exact pickFrom_lt Q t n (i + 1) q h
    · rw [if_neg e] at h; cases h; exact ⟨Nat.mod_lt _ (by omega), e⟩
theorem pick_lt {Q : Nat → List Nat} {t q : Nat} (h : pick Q t = some q) : q < 5 ∧ Q q ≠ [] := pickFrom_lt Q t 5 0 q h
/-- An item: whose, and which. -/
structure It where
  q : Nat
  id : Nat
/-- A fifo: its queues, whose turn it is. -/
structure Ff where
  Q : Nat → List Nat
  t : Nat
/-- One is taken. -/
def takeF (f : Ff) : Option (Ff × It) := match pick f.Q f.t with
  | none => none
  | some q => match f.Q q with
    | [] => none
    | x :: r => some (⟨upd f.Q q r, (q + 1) % 5⟩, ⟨q, x⟩)
/-- Some are drained. -/
def drainF : Nat → Ff → Ff × List It
  | 0, f => (f, [])
  | n + 1, f => match takeF f with
    | none => (f, [])
    | some (g, x) => ((drainF n g).1, x :: (drainF n g).2)
def putF (f : Ff) (q id : Nat) : Ff := ⟨upd f.Q q (f.Q q ++ [id]), f.t⟩
/-- How many there are. -/
def total (Q : Nat → List Nat) : Nat := (Q 0).length + (Q 1).length + (Q 2).length + (Q 3).length + (Q 4).length
theorem total_upd (Q : Nat → List Nat) (q : Nat) (hq : q < 5) (l : List Nat) : total (upd Q q l) + (Q q).length = total Q + l.length := by
  unfold total
  match q, hq with
  | 0, _ => simp [upd]; omega
  | 1, _ => simp [upd]; omega
  | 2, _ => simp [upd]; omega
  | 3, _ => simp [upd]; omega
  | 4, _ => simp [upd]; omega
theorem takeF_some {f g : Ff} {x : It} (h : takeF f = some (g, x)) : x.q < 5 ∧ ∃ r, pick f.Q f.t = some x.q ∧ f.Q x.q = x.id :: r ∧ g = ⟨upd f.Q x.q r, (x.q + 1) % 5⟩ := by
  unfold takeF at h
  cases hp : pick f.Q f.t with
  | none => rw [hp] at h; cases h
  | some q =>
    rw [hp] at h
    simp only at h
    cases hq : f.Q q with
    | nil => rw [hq] at h; cases h
    | cons a r =>
      rw [hq] at h
      simp only [Option.some.injEq, Prod.mk.injEq] at h
      obtain ⟨rfl, rfl⟩ := h
      exact ⟨(pick_lt hp).1, r, rfl, hq, rfl⟩
theorem takeF_none {f : Ff} (h : takeF f = none) : pick f.Q f.t = none := by
  unfold takeF at h
  cases hp : pick f.Q f.t with
  | none => rfl
  | some q =>
    rw [hp] at h
    simp only at h
    cases hq : f.Q q with
    | nil => exact absurd hq (pick_lt hp).2
    | cons a r => rw [hq] at h; cases h
theorem takeF_total {f g : Ff} {x : It} (h : takeF f = some (g, x)) : total f.Q = total g.Q + 1 := by
  obtain ⟨hq, r, _, h2, rfl⟩ := takeF_some h
  have := total_upd f.Q x.q hq r
  rw [h2, List.length_cons] at this
  simp only
  omega

section
variable {B : Nat} {w : World} {g : Nat} {V : Nat → Value} {Q : Nat → List Nat} {t : Nat}
theorem FifoAt.total_le (h : FifoAt B w g V Q t) : total Q ≤ 20 := by
  have h0 := h.room 0 (by omega)
  have h1 := h.room 1 (by omega)
  have h2 := h.room 2 (by omega)
  have h3 := h.room 3 (by omega)
  have h4 := h.room 4 (by omega)
  unfold total
  omega
/-- A queue's slice stored, and whose turn it is. -/
theorem FifoAt.take (h : FifoAt B w g V Q t) {q t' : Nat} {v' : Value} {r : List Nat} (hq : q < 5) (hr : r.length ≤ 4) (ht : t' < 5) (hv : QAt w B v' r) (hown : ∀ k, v'.ownBlock = some k → (V q).ownBlock = some k) :
    FifoAt B ((w.setCell ⟨g, q, none⟩ v').setCell ⟨g, 5, none⟩ (.int .i64 (t' : Int))) g (upd V q v') (upd Q q r) t' ∧ Moved B g V (upd V q v') w ((w.setCell ⟨g, q, none⟩ v').setCell ⟨g, 5, none⟩ (.int .i64 (t' : Int))) := by
  have hold : ∀ i, i ≠ g → ((w.setCell ⟨g, q, none⟩ v').setCell ⟨g, 5, none⟩ (.int .i64 (t' : Int))).heap[i]? = w.heap[i]? := fun i hi => by rw [heap_setCell_other _ _ _ _ hi, heap_setCell_other _ _ _ _ hi]
  refine ⟨⟨h.base, ?_, fun p hp => ?_, fun p s hp hs hps k hk => ?_, ht, fun p hp => ?_⟩, ⟨((Below.refl B w).setCell h.base _).setCell h.base _, fun i _ hig _ => hold i hig, fun p hp k hk => ?_⟩⟩
  · rw [heap_setCell_same _ _ _ _ _ _ (heap_setCell_same _ _ _ _ _ _ h.head), set_head V q hq]; rfl
  · by_cases e : p = q
    · subst e
      rw [upd_same, upd_same]
      exact hv.keep fun k hk => hold k fun e => h.head_ne hp (by rw [hown k hk, e])
    · rw [upd_other _ _ e, upd_other _ _ e]
      exact (h.own p hp).keep fun k hk => hold k fun e => h.head_ne hp (by rw [hk, e])
  · have f : ∀ {p k}, (upd V q v' p).ownBlock = some k → (V p).ownBlock = some k := fun {p k} hk => by
      by_cases e : p = q
      · subst e; rw [upd_same] at hk; exact hown k hk
      · rwa [upd_other _ _ e] at hk
    exact fun hk2 => h.apart p s hp hs hps k (f hk) (f hk2)
  · by_cases e : p = q
    · subst e; rw [upd_same]; exact hr
    · rw [upd_other _ _ e]; exact h.room p hp
  · by_cases e : p = q
    · subst e; rw [upd_same] at hk; exact .inl ⟨p, hp, hown k hk⟩
    · rw [upd_other _ _ e] at hk; exact .inl ⟨p, hp, hk⟩
theorem FifoAt.draws (h : FifoAt B w g V Q t) (n : Nat) : FifoAt B (w.drewN n) g V Q t := h.kept rfl fun _ _ _ _ => rfl
/-- A store into a block that is none of the fifo's. -/
theorem FifoAt.set (h : FifoAt B w g V Q t) {p : Addr} (hg : p.block ≠ g) (hv : ∀ q, q < 5 → (V q).ownBlock ≠ some p.block) (v : Value) : FifoAt B (w.setCell p v) g V Q t :=
  h.kept (heap_setCell_other _ _ _ _ (Ne.symm hg)) fun q hq k hk => heap_setCell_other _ _ _ _ fun e => hv q hq (by rw [hk, e])
theorem Moved.set {V' : Nat → Value} {w' : World} (h : Moved B g V V' w w') (hB : B ≤ w.heap.size) {p : Addr} (hp : w.heap.size ≤ p.block) (v : Value) : Moved B g V V' w (w'.setCell p v) :=
  ⟨h.below.setCell (Nat.le_trans hB hp) v, fun i hi hg hv => (heap_setCell_other _ _ _ _ (by omega)).trans (h.rest i hi hg hv), h.news⟩

set_option maxHeartbeats 1000000 in
/-- takes where there is none. -/
theorem takes_none (h : FifoAt B w g V Q t) (hp : pick Q t = none) : Calls Try.prog 21 #[.pointer (some ⟨g, 0, none⟩)] w fun e w' => e = .returned (.tuple #[.agg #[.int .i64 0, .int .u64 0], .bool false]) ∧ Below w.heap.size w w' := by
  have hlt := lt_of_block h.head
  have HP := Lib.hid hp
  have ht5 := h.turn
  clear hp
  go_enter Try.func21, Try.ntmps21
  go_wp2_with fail
  go_loop [7] (fun v => ∃ i : Nat, i ≤ 5 ∧ v = .int .i64 i ∧ Hid (pickFrom Q t i (5 - i) = none)) (fun v => 5 - (intOf v).toNat)
  case atStart => exact ⟨0, by omega, rfl, HP⟩
  case round =>
    clear HP
    obtain ⟨i, hi, rfl, HP⟩ := hrel
    by_cases hlt5 : i < 5
    · have hpi := HP.out
      rw [show 5 - i = (5 - (i + 1)) + 1 by omega] at hpi
      unfold pickFrom at hpi
      have hq5 : (t + i) % 5 < 5 := Nat.mod_lt _ (by omega)
      by_cases he : Q ((t + i) % 5) = []
      case neg => rw [if_neg he] at hpi; cases hpi
      rw [if_pos he] at hpi
      have HI := Lib.hid hpi
      clear hpi
      obtain ⟨A, cap, hv, _, _⟩ := (h.own _ hq5).form
      rw [he, List.length_nil] at hv
      have c5 := (World.cell?_alloc_lt w (.cells #[.int .i64 0, .int .u64 0] 32) ⟨g, 5, none⟩ hlt).trans h.cell5
      have cq := (World.cell?_alloc_lt w (.cells #[.int .i64 0, .int .u64 0] 32) ⟨g, (t + i) % 5, none⟩ hlt).trans (h.cell _ hq5)
      rw [hv] at cq
      clear hv he
      go_wp2_with fail
      go_round
      case rel => exact ⟨i + 1, by omega, by go_num, HI⟩
      case measure => simp [intOf]; omega
    · go_wp2_with fail
      exact bodyPost_ret (v := .tuple #[.agg #[.int .i64 0, .int .u64 0], .bool false]) (by simp [results, Try.results21, go_sem]) rfl ⟨rfl, (Below.refl _ _).alloc (Nat.le_refl _) _⟩
end
end Go.Proofs.Ytacddiidldppnaa
