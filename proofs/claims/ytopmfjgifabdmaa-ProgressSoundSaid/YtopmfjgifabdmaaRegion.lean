/- A law for a region that draws its order, in whose operations memory is read, made and handed to calls, but never overwritten: what is known of each operation's value stays known whatever comes up between, so each operation is looked at once, in whatever order. -/
import Derived.Below
import Derived.Orders
namespace Go.Proofs.Ytopmfjgifabdmaa
open Go.RowKit

/-- Each operation waits for earlier ones alone. -/
def backB (ops : Array Oper) : Bool := (List.range ops.size).all fun i => ((ops[i]?).map fun o => o.after.all fun e => decide (e.on < i)).getD true
/-- No two operations write one slot, and each slot that is written lies in the frame. -/
def ownB (n : Nat) (ops : Array Oper) : Bool := (List.range ops.size).all fun i => (List.range ops.size).all fun j =>
  match ops[i]?, ops[j]? with
  | some o, some p => (match o.dst with | some d => decide (d < n) && (i == j || p.dst != some d) | none => true)
  | _, _ => true

theorem backB_at {ops : Array Oper} (h : backB ops = true) {i : Nat} {o : Oper} (ho : ops[i]? = some o) : ∀ e ∈ o.after, e.on < i := by
  unfold backB at h
  rw [List.all_eq_true] at h
  have hi : i < ops.size := (Array.getElem?_eq_some_iff.1 ho).1
  have := h i (List.mem_range.2 hi)
  rw [ho] at this
  simp only [Option.map_some, Option.getD_some, Array.all_eq_true_iff_forall_mem] at this
  exact fun e he => of_decide_eq_true (this e he)
theorem ownB_at {n : Nat} {ops : Array Oper} (h : ownB n ops = true) {i j d : Nat} {o p : Oper} (ho : ops[i]? = some o) (hp : ops[j]? = some p) (hd : o.dst = some d) : d < n ∧ (i = j ∨ p.dst ≠ some d) := by
  unfold ownB at h
  rw [List.all_eq_true] at h
  have hi : i < ops.size := (Array.getElem?_eq_some_iff.1 ho).1
  have hj : j < ops.size := (Array.getElem?_eq_some_iff.1 hp).1
  have h1 := h i (List.mem_range.2 hi)
  rw [List.all_eq_true] at h1
  have h2 := h1 j (List.mem_range.2 hj)
  simp only [ho, hp, hd, Bool.and_eq_true, Bool.or_eq_true, beq_iff_eq, decide_eq_true_eq, bne_iff_ne] at h2
  exact h2

section
variable {P : Program} {ops : Array Oper} {Q : Exit → Act → World → Prop}

/-- How many are still to come up. -/
def left (listed : Array Bool) : Nat := listed.toList.countP fun b => !b
theorem left_set {listed : Array Bool} {i : Nat} (h : listed.getD i true = false) : left (listed.setIfInBounds i true) + 1 = left listed := by
  have hi : i < listed.size := by
    rcases Nat.lt_or_ge i listed.size with h' | h'
    · exact h'
    · simp [Array.getElem?_eq_none h'] at h
  have hv : listed.toList[i]'(by simpa using hi) = false := by simpa [hi] using h
  unfold left
  rw [Array.toList_setIfInBounds]
  have key : ∀ (l : List Bool) (i : Nat) (h : i < l.length), l[i] = false → (l.set i true).countP (fun b => !b) + 1 = l.countP fun b => !b := by
    intro l
    induction l with
    | nil => intro i h; simp at h
    | cons a l ih =>
      intro i h hv
      cases i with
      | zero => simp at hv; subst hv; simp
      | succ i =>
        simp only [List.set_cons_succ, List.countP_cons]
        have := ih i (by simpa using h) (by simpa using hv)
        omega
  exact key _ i (by simpa using hi) hv
theorem left_zero {listed : Array Bool} (h : left listed = 0) {i : Nat} (hi : i < listed.size) : listed.getD i false = true := by
  unfold left at h
  rw [List.countP_eq_zero] at h
  have := h (listed[i]) (by simp)
  simpa [hi] using this

/-- Where none may come up, all have. -/
theorem ready_none {listed : Array Bool} (hback : backB ops = true) (hs : listed.size = ops.size) (h : Region.ready .any ops listed = []) : ∀ i, i < ops.size → listed.getD i false = true := by
  intro i
  induction i using Nat.strongRecOn with
  | ind i ih =>
    intro hi
    by_cases hl : listed.getD i true = false
    · exfalso
      have hm : i ∈ Region.ready .any ops listed := mem_ready.2 ⟨hl, ops[i], Array.getElem?_eq_getElem hi, fun e he _ => by
        have := backB_at hback (Array.getElem?_eq_getElem hi) e he
        exact ih e.on this (by omega)⟩
      rw [h] at hm
      cases hm
    · simpa [show i < listed.size by omega] using hl

theorem wpAny_inv (hback : backB ops = true) (I : Array Bool → Act → World → Prop)
    (hstep : ∀ listed a w i, listed.size = ops.size → I listed a w → i ∈ Region.ready .any ops listed → wpOp P ops Q i (I (listed.setIfInBounds i true)) a w)
    (hdone : ∀ listed a w, I listed a w → (∀ i, i < ops.size → listed.getD i false = true) → Q .normal a w) :
    ∀ (fuel : Nat) (listed : Array Bool) (a : Act) (w : World), listed.size = ops.size → left listed ≤ fuel → I listed a w → wpAny P .any ops Q fuel listed a w := by
  intro fuel
  induction fuel with
  | zero =>
    intro listed a w hs hl hI
    have hall : ∀ i, i < ops.size → listed.getD i false = true := fun i hi => left_zero (by omega) (by omega)
    refine ⟨?_, hdone listed a w hI hall⟩
    rw [List.eq_nil_iff_forall_not_mem]
    intro i hi
    have h0 := (mem_ready.1 hi).1
    have hlt : i < ops.size := by
      obtain ⟨_, o, ho, _⟩ := mem_ready.1 hi
      exact (Array.getElem?_eq_some_iff.1 ho).1
    have h1 := hall i hlt
    have hlt' : i < listed.size := by omega
    simp [hlt'] at h0 h1
    rw [h0] at h1
    cases h1
  | succ fuel ih =>
    intro listed a w hs hl hI
    refine ⟨fun h => hdone listed a w hI (ready_none hback hs h), fun i hi => ?_⟩
    have h0 := (mem_ready.1 hi).1
    have := left_set h0
    exact wpOp_mono (fun a' w' h' => ih _ a' w' (by simpa using hs) (by omega) h') (hstep listed a w i hs hI hi)

/-- What is known of the slots: of each operation that has come up, its value; of each slot that none writes, what it held. -/
structure Facts (ops : Array Oper) (Φ : Nat → Value → World → Prop) (a0 : Act) (w0 : World) (listed : Nat → Bool) (a : Act) (w : World) : Prop where
  defers : a.defers = a0.defers
  size : a.tmps.size = a0.tmps.size
  world : Below w0.heap.size w0 w
  old : ∀ t, (∀ (i : Nat) (o : Oper), ops[i]? = some o → o.dst ≠ some t) → a.tmps[t]? = a0.tmps[t]?
  val : ∀ (i : Nat) (o : Oper) (d : Tmp), listed i = true → ops[i]? = some o → o.dst = some d → ∃ v, a.tmps[d]? = some v ∧ Φ i v w

/-- What one operation has to show: some value of which its fact holds, memory grown at most. -/
def Lands (Φ : Nat → Value → World → Prop) (i : Nat) (o : Oper) (a : Act) (w : World) (a' : Act) (w' : World) : Prop :=
  ∃ v, a' = a.put o.dst v ∧ Φ i v w' ∧ Below w.heap.size w w'

theorem wp_region_facts {id : Nat} {a0 : Act} {w0 : World} (hm : P.follows .mixedOrders = true) (hback : backB ops = true) (hown : ownB a0.tmps.size ops = true)
    (Φ : Nat → Value → World → Prop) (hmono : ∀ i v w w', Below w.heap.size w w' → Φ i v w → Φ i v w')
    (hstep : ∀ (a : Act) (w : World) (i : Nat) (o : Oper), ops[i]? = some o → Facts ops Φ a0 w0 (fun j => o.after.any fun e => Region.binds .any e && e.on == j) a w →
      wpOp P ops Q i (Lands Φ i o a w) a w)
    (hdone : ∀ a w, Facts ops Φ a0 w0 (fun _ => true) a w → Q .normal a w) : (Code.region id ops true).wp P Q a0 w0 := by
  refine wp_region_any hm (wpAny_inv hback (fun listed a w => Facts ops Φ a0 w0 (fun j => listed.getD j false) a w) ?_ ?_ ops.size _ a0 _ (by simp) ?_ ?_)
  · intro listed a w i hs hI hi
    obtain ⟨h0, o, ho, hall⟩ := mem_ready.1 hi
    refine wpOp_mono (fun a' w' h' => ?_) (hstep a w i o ho ⟨hI.defers, hI.size, hI.world, hI.old, fun j p d hj hp hd => ?_⟩)
    · obtain ⟨v, rfl, hv, hbel⟩ := h'
      have hbel' : Below w0.heap.size w w' := hbel.mono hI.world.size
      cases hdst : o.dst with
      | none =>
        refine ⟨hI.defers, hI.size, hI.world.trans hbel', hI.old, fun j p d hj hp hd => ?_⟩
        by_cases hji : i = j
        · subst hji; rw [ho] at hp; cases hp; rw [hdst] at hd; cases hd
        · obtain ⟨u, hu, hf⟩ := hI.val j p d (by simpa [getD_set_ne false hji] using hj) hp hd
          exact ⟨u, hu, hmono _ _ _ _ hbel hf⟩
      | some t =>
        refine ⟨hI.defers, by simpa [Act.put] using hI.size, hI.world.trans hbel', fun s hs' => ?_, fun j p d hj hp hd => ?_⟩
        · have hne : t ≠ s := fun e => hs' i o ho (by rw [hdst, e])
          simp only [Act.put]
          rw [Array.getElem?_setIfInBounds_ne hne]
          exact hI.old s hs'
        · by_cases hji : i = j
          · subst hji
            rw [ho] at hp; cases hp
            rw [hdst] at hd; cases hd
            have hlt := (ownB_at hown ho ho hdst).1
            refine ⟨v, ?_, hv⟩
            simp only [Act.put]
            rw [Array.getElem?_setIfInBounds_self_of_lt (by rw [hI.size]; exact hlt)]
          · obtain ⟨u, hu, hf⟩ := hI.val j p d (by simpa [getD_set_ne false hji] using hj) hp hd
            have hne : t ≠ d := by
              rcases (ownB_at hown ho hp hdst).2 with h | h
              · exact absurd h hji
              · intro e; exact h (by rw [hd, e])
            refine ⟨u, ?_, hmono _ _ _ _ hbel hf⟩
            simp only [Act.put]
            rw [Array.getElem?_setIfInBounds_ne hne]
            exact hu
    · rw [Array.any_eq_true'] at hj
      obtain ⟨e, he, hej⟩ := hj
      simp only [Bool.and_eq_true, beq_iff_eq] at hej
      obtain ⟨hbd, rfl⟩ := hej
      exact hI.val e.on p d (hall e he hbd) hp hd
  · intro listed a w hI hall
    exact hdone a w ⟨hI.defers, hI.size, hI.world, hI.old, fun i o d _ ho hd => hI.val i o d (hall i (Array.getElem?_eq_some_iff.1 ho).1) ho hd⟩
  · unfold left
    exact Nat.le_trans (List.countP_le_length) (by simp)
  · refine ⟨rfl, rfl, ⟨rfl, rfl, rfl, Nat.le_refl _, fun _ _ => rfl⟩, fun _ _ => rfl, fun i o d hi => ?_⟩
    rw [Array.getD_eq_getD_getElem?, Array.getElem?_replicate] at hi
    split at hi <;> simp at hi

/-- The operations one by one. -/
def StepsFrom (P : Program) (ops : Array Oper) (Q : Exit → Act → World → Prop) (Φ : Nat → Value → World → Prop) (a0 : Act) (w0 : World) : Nat → List Oper → Prop
  | _, [] => True
  | i, o :: l => (∀ a w, Facts ops Φ a0 w0 (fun j => o.after.any fun e => Region.binds .any e && e.on == j) a w → ops[i]? = some o → wpOp P ops Q i (Lands Φ i o a w) a w) ∧ StepsFrom P ops Q Φ a0 w0 (i + 1) l
theorem StepsFrom.at_ {Φ : Nat → Value → World → Prop} {a0 : Act} {w0 : World} : ∀ (l : List Oper) (n : Nat), StepsFrom P ops Q Φ a0 w0 n l → ∀ (i : Nat) (o : Oper), l[i]? = some o → ∀ (a : Act) (w : World),
    Facts ops Φ a0 w0 (fun j => o.after.any fun e => Region.binds .any e && e.on == j) a w → ops[n + i]? = some o → wpOp P ops Q (n + i) (Lands Φ (n + i) o a w) a w := by
  intro l
  induction l with
  | nil => intro n _ i o h; simp at h
  | cons x l ih =>
    intro n hs i o h a w hF ho
    cases i with
    | zero =>
      simp only [List.getElem?_cons_zero, Option.some.injEq] at h
      subst h
      exact hs.1 a w hF ho
    | succ i =>
      have := ih (n + 1) hs.2 i o (by simpa using h) a w hF (by rw [show n + 1 + i = n + (i + 1) by omega]; exact ho)
      rwa [show n + 1 + i = n + (i + 1) by omega] at this

theorem wp_region_steps {id : Nat} {a0 : Act} {w0 : World} (hm : P.follows .mixedOrders = true) (hback : backB ops = true) (hown : ownB a0.tmps.size ops = true)
    (L : List (Value → World → Prop)) (hmono : ∀ p ∈ L, ∀ v w w', Below w.heap.size w w' → p v w → p v w')
    (hsteps : StepsFrom P ops Q (fun i => L.getD i fun _ _ => False) a0 w0 0 ops.toList)
    (hdone : ∀ a w, Facts ops (fun i => L.getD i fun _ _ => False) a0 w0 (fun _ => true) a w → Q .normal a w) : (Code.region id ops true).wp P Q a0 w0 := by
  refine wp_region_facts hm hback hown _ (fun i v w w' hb h => ?_) (fun a w i o ho hF => ?_) hdone
  · simp only [List.getD_eq_getElem?_getD] at h ⊢
    cases hi : L[i]? with
    | none => rw [hi] at h; exact h.elim
    | some p => rw [hi] at h; exact hmono p (List.mem_of_getElem? hi) v w w' hb h
  · have := StepsFrom.at_ ops.toList 0 hsteps i o (by simpa using ho) a w hF (by simpa using ho)
    simpa using this

theorem step_val {Φ : Nat → Value → World → Prop} {i : Nat} {o : Oper} {a : Act} {w w' : World} {v : Value} (ho : ops[i]? = some o) (hg : Region.wanted o (yielded ops a.tmps) = true)
    (hr : (execOp a.eval o).run P w = .ok (.value v) w') (hΦ : Φ i v w') (hb : Below w.heap.size w w') : wpOp P ops Q i (Lands Φ i o a w) a w := by
  unfold wpOp
  simp only [ho, hg, if_true]
  refine .inl ?_
  unfold Oper.wp
  rw [hr]
  exact ⟨v, rfl, hΦ, hb⟩
theorem step_call {Φ : Nat → Value → World → Prop} {i : Nat} {o : Oper} {a : Act} {w : World} {f : FuncId} {args : Array Value} (ho : ops[i]? = some o) (hg : Region.wanted o (yielded ops a.tmps) = true)
    (hr : (execOp a.eval o).run P w = .ok (.enter f args) w) (hC : Calls P f args w fun e w' => ∃ v, e = .returned v ∧ Φ i v w' ∧ Below w.heap.size w w') : wpOp P ops Q i (Lands Φ i o a w) a w := by
  unfold wpOp
  simp only [ho, hg, if_true]
  refine .inl ?_
  unfold Oper.wp
  rw [hr, Oper.upon_enter]
  refine hC.mono fun e w' h => ?_
  obtain ⟨v, rfl, h1, h2⟩ := h
  exact ⟨v, rfl, h1, h2⟩
theorem wanted_none {o : Oper} {y : Nat → Option Bool} (h : o.guard = none) : Region.wanted o y = true := by unfold Region.wanted; rw [h]
theorem wanted_some {o : Oper} {a : Act} {j d : Nat} {b : Bool} {p : Oper} (h : o.guard = some (j, b)) (hp : ops[j]? = some p) (hd : p.dst = some d) (hv : a.tmps[d]? = some (.bool b)) : Region.wanted o (yielded ops a.tmps) = true := by
  unfold Region.wanted yielded
  rw [h]
  simp [hp, hd, hv]
theorem no_dst {ops : Array Oper} {t : Tmp} (h : (ops.all fun o => o.dst != some t) = true) : ∀ (i : Nat) (o : Oper), ops[i]? = some o → o.dst ≠ some t := fun i o ho => by
  have := Array.all_eq_true_iff_forall_mem.1 h o (Array.mem_of_getElem? ho)
  simpa using this

end
end Go.Proofs.Ytopmfjgifabdmaa
