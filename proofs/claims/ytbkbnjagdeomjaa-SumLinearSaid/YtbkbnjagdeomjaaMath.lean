/- The plain law of the checksum, without program and memory: one bit's step, the table, the sum of a list of bytes; the step is linear and gives distinct states for distinct states, so two texts that differ only within four bytes side by side have distinct sums. -/
import Derived.Below
namespace Go.Proofs.Ytbkbnjagdeomjaa

/-- One bit's step. -/
def bit (x : Nat) : Nat := if x % 2 = 1 then (x / 2) ^^^ 2197175160 else x / 2
/-- So many bits' steps. -/
def turn : Nat → Nat → Nat
  | 0, x => x
  | k + 1, x => bit (turn k x)
/-- The table's number of a byte. -/
def ent (c : Nat) : Nat := turn 8 c
/-- One byte's step, by a table T. -/
def updT (T : Nat → Nat) (r c : Nat) : Nat := (r / 256) ^^^ T ((r % 256) ^^^ c)
/-- A row of bytes, by a table T. -/
def runT (T : Nat → Nat) (r : Nat) (l : List UInt8) : Nat := l.foldl (fun r c => updT T r c.toNat) r
/-- The sum of a row of bytes. -/
def sumT (T : Nat → Nat) (l : List UInt8) : Nat := runT T 4294967295 l ^^^ 4294967295

theorem runT_nil (T : Nat → Nat) (r : Nat) : runT T r [] = r := rfl
theorem runT_cons (T : Nat → Nat) (r : Nat) (c : UInt8) (l : List UInt8) : runT T r (c :: l) = runT T (updT T r c.toNat) l := rfl
theorem runT_append (T : Nat → Nat) (r : Nat) (l m : List UInt8) : runT T r (l ++ m) = runT T (runT T r l) m := by
  unfold runT; rw [List.foldl_append]
theorem runT_snoc (T : Nat → Nat) (r : Nat) (l : List UInt8) (c : UInt8) : runT T r (l ++ [c]) = updT T (runT T r l) c.toNat := by
  rw [runT_append]; rfl

theorem bit_testBit (x i : Nat) : (bit x).testBit i = (x.testBit (i + 1) ^^ (x.testBit 0 && (2197175160 : Nat).testBit i)) := by
  unfold bit
  have h0 : x.testBit 0 = decide (x % 2 = 1) := Nat.testBit_zero x
  rw [h0, Nat.testBit_succ]
  by_cases h : x % 2 = 1
  · rw [if_pos h, Nat.testBit_xor]; simp [h]
  · rw [if_neg h]; simp [h]

theorem bit_xor (x y : Nat) : bit (x ^^^ y) = bit x ^^^ bit y := by
  apply Nat.eq_of_testBit_eq
  intro i
  simp only [bit_testBit, Nat.testBit_xor]
  cases x.testBit (i + 1) <;> cases y.testBit (i + 1) <;> cases x.testBit 0 <;> cases y.testBit 0 <;> cases (2197175160 : Nat).testBit i <;> rfl

theorem bit_lt {x : Nat} (h : x < 4294967296) : bit x < 4294967296 := by
  unfold bit
  split
  · exact Nat.xor_lt_two_pow (n := 32) (by omega) (by decide)
  · omega

theorem bit_zero {x : Nat} (hx : x < 4294967296) (h : bit x = 0) : x = 0 := by
  unfold bit at h
  split at h
  · exfalso
    have h2 : ((x / 2) ^^^ 2197175160).testBit 31 = false := by rw [h]; simp
    rw [Nat.testBit_xor] at h2
    have h3 : (x / 2).testBit 31 = false := Nat.testBit_lt_two_pow (by omega)
    rw [h3] at h2
    exact absurd h2 (by decide)
  · omega

theorem turn_xor (k x y : Nat) : turn k (x ^^^ y) = turn k x ^^^ turn k y := by
  induction k with
  | zero => rfl
  | succ k ih => simp only [turn, ih, bit_xor]
theorem turn_lt (k : Nat) {x : Nat} (h : x < 4294967296) : turn k x < 4294967296 := by
  induction k with
  | zero => exact h
  | succ k ih => exact bit_lt ih
theorem turn_zero (k : Nat) {x : Nat} (hx : x < 4294967296) (h : turn k x = 0) : x = 0 := by
  induction k with
  | zero => exact h
  | succ k ih => exact ih (bit_zero (turn_lt k hx) h)
theorem xor_zero_iff (x y : Nat) : x ^^^ y = 0 ↔ x = y := by
  constructor
  · intro h
    apply Nat.eq_of_testBit_eq
    intro i
    have := congrArg (fun n => Nat.testBit n i) h
    simp only [Nat.testBit_xor, Nat.zero_testBit] at this
    revert this
    cases x.testBit i <;> cases y.testBit i <;> simp
  · rintro rfl; exact Nat.xor_self x
theorem turn_inj (k : Nat) {x y : Nat} (hx : x < 4294967296) (hy : y < 4294967296) (h : turn k x = turn k y) : x = y := by
  rw [← xor_zero_iff]
  refine turn_zero k (Nat.xor_lt_two_pow (n := 32) hx hy) ?_
  rw [turn_xor, h, Nat.xor_self]

theorem turn_succ' (k x : Nat) : turn (k + 1) x = turn k (bit x) := by
  induction k with
  | zero => rfl
  | succ k ih => rw [turn, ih]; rfl
theorem bit_double (x : Nat) : bit (x * 2) = x := by
  unfold bit
  rw [if_neg (by omega)]; omega
theorem turn_shift (k x : Nat) : turn k (x * 2 ^ k) = x := by
  induction k generalizing x with
  | zero => simp [turn]
  | succ k ih =>
    rw [turn_succ', show x * 2 ^ (k + 1) = x * 2 ^ k * 2 by rw [Nat.pow_succ, Nat.mul_assoc], bit_double]
    exact ih x
theorem turn8_shift (x : Nat) : turn 8 (x * 256) = x := turn_shift 8 x

theorem split_byte (x : Nat) : x = (x / 256 * 256) ^^^ (x % 256) := by
  have h : (x / 256 * 256) ^^^ (x % 256) = x / 256 * 256 + x % 256 := by
    apply Nat.eq_of_testBit_eq
    intro i
    rw [Nat.testBit_xor, show x / 256 * 256 + x % 256 = 2 ^ 8 * (x / 256) + x % 256 by omega, show x / 256 * 256 = 2 ^ 8 * (x / 256) by omega,
      Nat.testBit_two_pow_mul_add _ (show x % 256 < 2 ^ 8 by omega), Nat.testBit_two_pow_mul]
    by_cases hi : i < 8
    · simp [hi, show ¬ 8 ≤ i by omega]
    · have : (x % 256).testBit i = false := Nat.testBit_lt_two_pow (Nat.lt_of_lt_of_le (show x % 256 < 2 ^ 8 by omega) (Nat.pow_le_pow_right (by omega) (by omega)))
      simp [hi, this]; omega
  omega

theorem turn8 (x : Nat) : turn 8 x = (x / 256) ^^^ ent (x % 256) := by
  conv => lhs; rw [split_byte x]
  rw [turn_xor, turn8_shift]; rfl

theorem xor_div256 (r : Nat) {c : Nat} (hc : c < 256) : (r ^^^ c) / 256 = r / 256 := by
  apply Nat.eq_of_testBit_eq
  intro i
  rw [show (256 : Nat) = 2 ^ 8 from rfl, Nat.testBit_div_two_pow, Nat.testBit_div_two_pow, Nat.testBit_xor]
  have : c.testBit (i + 8) = false := Nat.testBit_lt_two_pow (Nat.lt_of_lt_of_le (show c < 2 ^ 8 by omega) (Nat.pow_le_pow_right (by omega) (by omega)))
  simp [this]
theorem xor_mod256 (r : Nat) {c : Nat} (hc : c < 256) : (r ^^^ c) % 256 = (r % 256) ^^^ c := by
  apply Nat.eq_of_testBit_eq
  intro i
  rw [show (256 : Nat) = 2 ^ 8 from rfl, Nat.testBit_mod_two_pow, Nat.testBit_xor, Nat.testBit_xor, Nat.testBit_mod_two_pow]
  by_cases hi : i < 8
  · simp [hi]
  · have : c.testBit i = false := Nat.testBit_lt_two_pow (Nat.lt_of_lt_of_le (show c < 2 ^ 8 by omega) (Nat.pow_le_pow_right (by omega) (by omega)))
    simp [hi, this]

/-- One byte's step by the document's own table is eight bits' steps of the state with the byte xored in. -/
theorem upd_turn (r : Nat) {c : Nat} (hc : c < 256) : updT ent r c = turn 8 (r ^^^ c) := by
  rw [turn8, xor_div256 r hc, xor_mod256 r hc]; rfl

theorem ent_lt {c : Nat} (h : c < 4294967296) : ent c < 4294967296 := turn_lt 8 h
theorem ent_xor (a b : Nat) : ent (a ^^^ b) = ent a ^^^ ent b := turn_xor 8 a b
theorem ent_inj {a b : Nat} (ha : a < 4294967296) (hb : b < 4294967296) (h : ent a = ent b) : a = b := turn_inj 8 ha hb h

theorem xor_lt32 {a b : Nat} (ha : a < 4294967296) (hb : b < 4294967296) : a ^^^ b < 4294967296 := Nat.xor_lt_two_pow (n := 32) ha hb
theorem xor_lt8 {a b : Nat} (ha : a < 256) (hb : b < 256) : a ^^^ b < 256 := Nat.xor_lt_two_pow (n := 8) ha hb
theorem updT_lt {T : Nat → Nat} (hT : ∀ i, i < 256 → T i < 4294967296) {r c : Nat} (hr : r < 4294967296) (hc : c < 256) : updT T r c < 4294967296 :=
  xor_lt32 (by omega) (hT _ (xor_lt8 (by omega) hc))
theorem runT_lt {T : Nat → Nat} (hT : ∀ i, i < 256 → T i < 4294967296) (l : List UInt8) : ∀ {r : Nat}, r < 4294967296 → runT T r l < 4294967296 := by
  induction l with
  | nil => intro r h; exact h
  | cons c l ih => intro r h; exact ih (updT_lt hT h (by have := c.toNat_lt; omega))
theorem ent_tab : ∀ i, i < 256 → ent i < 4294967296 := fun i h => ent_lt (by omega)

/-- Two states that end alike behind the same bytes were alike. -/
theorem run_inj (l : List UInt8) : ∀ {r s : Nat}, r < 4294967296 → s < 4294967296 → runT ent r l = runT ent s l → r = s := by
  induction l with
  | nil => intro r s _ _ h; exact h
  | cons c l ih =>
    intro r s hr hs h
    have hc : c.toNat < 256 := by have := c.toNat_lt; omega
    have h1 := ih (updT_lt ent_tab hr hc) (updT_lt ent_tab hs hc) h
    rw [upd_turn r hc, upd_turn s hc] at h1
    have h2 := turn_inj 8 (xor_lt32 hr (by omega)) (xor_lt32 hs (by omega)) h1
    have h3 : (r ^^^ c.toNat) ^^^ c.toNat = (s ^^^ c.toNat) ^^^ c.toNat := by rw [h2]
    rwa [Nat.xor_assoc, Nat.xor_self, Nat.xor_zero, Nat.xor_assoc, Nat.xor_self, Nat.xor_zero] at h3

/-- The number that a row of bytes is, the lowest first. -/
def num : List Nat → Nat
  | [] => 0
  | e :: l => e + 256 * num l
/-- What a row of bytes' differences makes of a difference of states. -/
def dif (f : Nat → Nat) (d : Nat) : List Nat → Nat
  | [] => d
  | e :: l => dif f (f (d ^^^ e)) l

theorem dif_nil (f : Nat → Nat) (d : Nat) : dif f d [] = d := rfl
theorem dif_cons (f : Nat → Nat) (d e : Nat) (l : List Nat) : dif f d (e :: l) = dif f (f (d ^^^ e)) l := rfl
theorem num_lt (l : List Nat) (h : ∀ e ∈ l, e < 256) : num l < 256 ^ l.length := by
  induction l with
  | nil => simp [num]
  | cons e l ih =>
    have h1 := ih fun x hx => h x (List.mem_cons_of_mem _ hx)
    have h2 := h e (List.mem_cons_self)
    simp only [num, List.length_cons, Nat.pow_succ]
    omega
theorem num_zero (l : List Nat) (h : num l = 0) : ∀ e ∈ l, e = 0 := by
  induction l with
  | nil => intro e he; cases he
  | cons a l ih =>
    simp only [num] at h
    intro e he
    rcases List.mem_cons.1 he with rfl | he
    · omega
    · exact ih (by omega) e he

theorem dif_num (l : List Nat) (h : ∀ e ∈ l, e < 256) : ∀ (d : Nat), d < 4294967296 → l.length ≤ 4 → dif (turn 8) d l = 0 → d = num l := by
  have key : ∀ (l : List Nat), (∀ e ∈ l, e < 256) → ∀ (d x j : Nat), d < 4294967296 → j + l.length ≤ 4 → x < 256 ^ j → dif (turn 8) d l = x → d = num l + 256 ^ l.length * x := by
    intro l
    induction l with
    | nil => intro _ d x j _ _ _ h; rw [dif_nil] at h; simp [num, h]
    | cons e l ih =>
      intro he d x j hd hj hx h
      have he0 := he e (List.mem_cons_self)
      have hl : ∀ a ∈ l, a < 256 := fun a ha => he a (List.mem_cons_of_mem _ ha)
      rw [dif_cons] at h
      simp only [List.length_cons] at hj
      have hx0 : d ^^^ e < 4294967296 := xor_lt32 hd (by omega)
      have h1 := ih hl (turn 8 (d ^^^ e)) x j (turn_lt 8 hx0) (by omega) hx h
      have hn := num_lt l hl
      have hy : num l + 256 ^ l.length * x < 16777216 := by
        have h2 : num l + 256 ^ l.length * x < 256 ^ l.length * 256 ^ j := by
          calc num l + 256 ^ l.length * x < 256 ^ l.length + 256 ^ l.length * x := by omega
            _ = 256 ^ l.length * (x + 1) := by rw [Nat.mul_add, Nat.mul_one, Nat.add_comm]
            _ ≤ 256 ^ l.length * 256 ^ j := Nat.mul_le_mul_left _ (by omega)
        rw [← Nat.pow_add] at h2
        have h3 : (256 : Nat) ^ (l.length + j) ≤ 256 ^ 3 := Nat.pow_le_pow_right (by omega) (by omega)
        have h4 : (256 : Nat) ^ 3 = 16777216 := by decide
        omega
      generalize hY : num l + 256 ^ l.length * x = y at h1 hy
      have h5 : d ^^^ e = y * 256 := turn_inj 8 hx0 (by omega) (by rw [h1, turn8_shift])
      have h6 : d = (y * 256) ^^^ e := by
        have : (d ^^^ e) ^^^ e = (y * 256) ^^^ e := by rw [h5]
        rwa [Nat.xor_assoc, Nat.xor_self, Nat.xor_zero] at this
      have h7 : (y * 256) ^^^ e = y * 256 + e := by
        have := split_byte (y * 256 + e)
        rw [show (y * 256 + e) / 256 = y by omega, show (y * 256 + e) % 256 = e by omega] at this
        exact this.symm
      rw [h6, h7, ← hY]
      simp only [num, List.length_cons, Nat.pow_succ]
      rw [Nat.mul_comm (256 ^ l.length) 256, Nat.mul_assoc]
      omega
  intro d hd hl h0
  have := key l h d 0 0 hd (by omega) (by simp) h0
  simpa using this

/-- Two rows of at most four bytes, alike long, that end alike from one state are alike. -/
theorem run_short (l : List UInt8) (m : List UInt8) (hlen : l.length = m.length) (h4 : l.length ≤ 4) {r : Nat} (h : runT ent r l = runT ent r m) : l = m := by
  have hd : ∀ (l m : List UInt8), l.length = m.length → ∀ (r s : Nat), runT ent r l ^^^ runT ent s m = dif (turn 8) (r ^^^ s) (List.zipWith (fun a b => a.toNat ^^^ b.toNat) l m) := by
    intro l
    induction l with
    | nil => intro m hm r s; obtain rfl : m = [] := List.eq_nil_of_length_eq_zero (by simpa using hm.symm); rfl
    | cons a l ih =>
      intro m hm r s
      cases m with
      | nil => simp at hm
      | cons b m =>
        rw [runT_cons, runT_cons, ih m (by simpa using hm), List.zipWith_cons_cons, dif_cons, upd_turn r (by have := a.toNat_lt; omega), upd_turn s (by have := b.toNat_lt; omega), ← turn_xor]
        congr 2
        ac_rfl
  have h1 := hd l m hlen r r
  rw [h, Nat.xor_self, Nat.xor_self] at h1
  have hb : ∀ e ∈ List.zipWith (fun a b : UInt8 => a.toNat ^^^ b.toNat) l m, e < 256 := by
    intro e he
    obtain ⟨i, hi, rfl⟩ := List.mem_iff_getElem.1 he
    rw [List.getElem_zipWith]
    have hl : ∀ c : UInt8, c.toNat < 256 := fun c => by have := c.toNat_lt; omega
    exact xor_lt8 (hl _) (hl _)
  have h2 := num_zero _ (dif_num _ hb 0 (by omega) (by rw [List.length_zipWith]; omega) h1.symm).symm
  apply List.ext_getElem hlen
  intro i hi hi'
  have h3 : l[i].toNat ^^^ m[i].toNat = 0 := h2 _ (List.mem_iff_getElem.2 ⟨i, by rw [List.length_zipWith]; omega, by rw [List.getElem_zipWith]⟩)
  exact UInt8.toNat_inj.1 ((xor_zero_iff _ _).1 h3)

theorem xor_cancel {a b c : Nat} (h : a ^^^ c = b ^^^ c) : a = b := by
  have : (a ^^^ c) ^^^ c = (b ^^^ c) ^^^ c := by rw [h]
  rwa [Nat.xor_assoc, Nat.xor_self, Nat.xor_zero, Nat.xor_assoc, Nat.xor_self, Nat.xor_zero] at this

/-- P2.3: two texts that differ only within four bytes side by side have distinct sums. -/
theorem burst (pre l m post : List UInt8) (hlen : l.length = m.length) (h4 : l.length ≤ 4) (h : sumT ent (pre ++ l ++ post) = sumT ent (pre ++ m ++ post)) : l = m := by
  unfold sumT at h
  have h1 := xor_cancel h
  simp only [runT_append] at h1
  have hp : runT ent 4294967295 pre < 4294967296 := runT_lt ent_tab _ (by omega)
  exact run_short l m hlen h4 (run_inj post (runT_lt ent_tab _ hp) (runT_lt ent_tab _ hp) h1)

/-- The document's loop: a byte xored in, then eight bits' steps. -/
theorem run_take (T : Nat → Nat) (r : Nat) (l : List UInt8) (k : Nat) (hk : k < l.length) : runT T r (l.take (k + 1)) = updT T (runT T r (l.take k)) l[k].toNat := by
  rw [List.take_succ_eq_append_getElem hk, runT_snoc]

end Go.Proofs.Ytbkbnjagdeomjaa
