/- What an act does to a list of reads, and what the document's makes of it, in plain Lean; the walks of does and said. -/
import Derived.Test.YtlenmhclnmcljaaRefBegin
import Derived.Handy
namespace Go.Proofs.Ytlenmhclnmcljaa
open Go.RowKit

/-- What an act tells, and the list that it leaves. -/
structure Out where
  a : Bool
  n : Nat
  X : List Rd
  Y : List Nat
  L : List Rd
  b : Nat
def actL (L : List Rd) (b d x y : Nat) : Out :=
  if d = 0 then (if L.any (isId x) then ⟨false, 0, [], [], L, b⟩ else ⟨true, 0, [], [], L ++ [⟨x, 0, 0⟩], b⟩)
  else if d = 1 then ⟨false, L.length - b, [], [], begunL L b x y, L.length⟩
  else if d = 2 then ⟨false, 0, L.take (cnt L b x), [], L.drop (cnt L b x), b - cnt L b x⟩
  else if d = 3 then ⟨false, 0, [], L.map Rd.id, [], 0⟩
  else ⟨false, 0, [], [], L, b⟩
/-- What the document's tells, and its lists. -/
structure ROut where
  a : Bool
  n : Nat
  X : List Rd
  Y : List Nat
  M : List Rd
  I : List Nat
def refAct (M : List Rd) (I : List Nat) (d x y : Nat) : ROut :=
  if d = 0 then (if refAskL M I x then ⟨true, 0, [], [], M, I ++ [x]⟩ else ⟨false, 0, [], [], M, I⟩)
  else if d = 1 then ⟨false, I.length, [], [], M ++ I.map fun i => ⟨i, mxIx M x, mxRd M y⟩, []⟩
  else if d = 2 then ⟨false, 0, M.filter fun r => decide (r.rd ≤ x), [], M.filter fun r => decide (x < r.rd), I⟩
  else if d = 3 then ⟨false, 0, [], M.map Rd.id ++ I, [], []⟩
  else ⟨false, 0, [], [], M, I⟩

/-- What does leaves. -/
def DoesTold (B g : Nat) (o : Out) (w : World) (e : Ending) (w' : World) : Prop := ∃ v' vx vy, e = .returned (.tuple #[.bool o.a, .int .i64 (o.n : Int), vx, vy]) ∧ ReadsAt B w' g v' o.L o.b ∧ w'.ownsRow w.heap.size 32 3 vx o.X.length (row o.X) ∧ IRow w' w.heap.size vy o.Y ∧
  (∀ i, vx.ownBlock = some i → v'.ownBlock ≠ some i) ∧ Below B w w' ∧ Aside w w'
theorem aside_box (w : World) (o : Obj) : Below w.heap.size w (w.alloc o) := (Below.refl _ _).alloc (Nat.le_refl _) o

set_option maxHeartbeats 2000000 in
theorem does_any (B g : Nat) (v : Value) (L : List Rd) (b d x y : Nat) (w : World) (h : ReadsAt B w g v L b) (hn : L.length ≤ 999) (hx : x ≤ 18446744073709551615) (hy : y ≤ 18446744073709551615) :
    Calls Try.prog 14 #[.pointer (some ⟨g, 0, none⟩), .agg #[.int .u8 (d : Int), .int .u64 (x : Int), .int .u64 (y : Int)]] w (DoesTold B g (actL L b d x y) w) := by
  have hB := h.ltB
  by_cases h0 : d = 0
  · subst h0
    have h1 := h.below (aside_box w (.cells #[.int .u8 0, .int .u64 (x : Int), .int .u64 (y : Int)] 39))
    have hbx := aside_box w (.cells #[.int .u8 0, .int .u64 (x : Int), .int .u64 (y : Int)] 39)
    have H1 := Lib.hid h1
    clear h1
    cases ha : L.any (isId x) with
    | true =>
      have HA := Lib.hid ha
      clear ha
      go_enter Try.func14, Try.ntmps14
      go_wp2_with fail
      refine (ask_no B g v L b x _ H1.out hn HA.out).mono ?_
      rintro e w2 ⟨rfl, r2, b2⟩
      go_wp2_with fail
      go_returns
      have e : actL L b 0 x y = ⟨false, 0, [], [], L, b⟩ := by simp [actL, HA.out]
      rw [e]
      have hbb := hbx.trans (b2.mono hbx.size)
      exact ⟨v, _, _, rfl, r2, World.ownsRow_nil _ _ _ _, World.ownsRow_nil _ _ _ _, fun i hi => by simp [Value.ownBlock] at hi, hbb.mono hB, Aside.of_below hbb⟩
    | false =>
      have HA := Lib.hid ha
      clear ha
      go_enter Try.func14, Try.ntmps14
      go_wp2_with fail
      refine (ask_yes B g v L b x _ H1.out hn hx HA.out).mono ?_
      rintro e w2 ⟨rfl, ⟨v2, r2, f2⟩, b2, s2, p2⟩
      go_wp2_with fail
      go_returns
      have e : actL L b 0 x y = ⟨true, 0, [], [], L ++ [⟨x, 0, 0⟩], b⟩ := by simp [actL, HA.out]
      rw [e]
      exact ⟨v2, _, _, rfl, r2, World.ownsRow_nil _ _ _ _, World.ownsRow_nil _ _ _ _, fun i hi => by simp [Value.ownBlock] at hi, (hbx.mono hB).trans b2, (Aside.of_below hbx).trans s2⟩
  by_cases h1 : d = 1
  · subst h1
    have h1 := h.below (aside_box w (.cells #[.int .u8 1, .int .u64 (x : Int), .int .u64 (y : Int)] 39))
    have hbx := aside_box w (.cells #[.int .u8 1, .int .u64 (x : Int), .int .u64 (y : Int)] 39)
    have H1 := Lib.hid h1
    clear h1
    go_enter Try.func14, Try.ntmps14
    go_wp2_with fail
    refine (begin_any B g v L b x y _ H1.out (by omega) hx hy).mono ?_
    rintro e w2 ⟨rfl, r2, b2, s2, p2⟩
    go_wp2_with fail
    go_returns
    have e : actL L b 1 x y = ⟨false, L.length - b, [], [], begunL L b x y, L.length⟩ := by simp [actL]
    rw [e]
    exact ⟨v, _, _, rfl, r2, World.ownsRow_nil _ _ _ _, World.ownsRow_nil _ _ _ _, fun i hi => by simp [Value.ownBlock] at hi, (hbx.mono hB).trans b2, (Aside.of_below hbx).trans s2⟩
  by_cases h2 : d = 2
  · subst h2
    have h1 := h.below (aside_box w (.cells #[.int .u8 2, .int .u64 (x : Int), .int .u64 (y : Int)] 39))
    have hbx := aside_box w (.cells #[.int .u8 2, .int .u64 (x : Int), .int .u64 (y : Int)] 39)
    have H1 := Lib.hid h1
    clear h1
    go_enter Try.func14, Try.ntmps14
    go_wp2_with fail
    refine (told_any B g v L b x _ H1.out (by omega) hx).mono ?_
    rintro e w2 ⟨v1, v2, H, rfl, o1, r2, k1, k2, b2, s2, _, _⟩
    go_wp2_with fail
    go_returns
    have e : actL L b 2 x y = ⟨false, 0, L.take (cnt L b x), [], L.drop (cnt L b x), b - cnt L b x⟩ := by simp [actL]
    rw [e]
    exact ⟨v2, _, _, rfl, r2, World.ownsRow.mono o1 hbx.size, World.ownsRow_nil _ _ _ _, fun i hi hi2 => by have := k1 i hi; have := k2 i hi2; omega, (hbx.mono hB).trans b2, (Aside.of_below hbx).trans s2⟩
  by_cases h3 : d = 3
  · subst h3
    have h1 := h.below (aside_box w (.cells #[.int .u8 3, .int .u64 (x : Int), .int .u64 (y : Int)] 39))
    have hbx := aside_box w (.cells #[.int .u8 3, .int .u64 (x : Int), .int .u64 (y : Int)] 39)
    have H1 := Lib.hid h1
    clear h1
    go_enter Try.func14, Try.ntmps14
    go_wp2_with fail
    refine (drop_any B g v L b _ H1.out (by omega)).mono ?_
    rintro e w2 ⟨v1, rfl, o1, r2, b2, s2, _⟩
    go_wp2_with fail
    go_returns
    have e : actL L b 3 x y = ⟨false, 0, [], L.map Rd.id, [], 0⟩ := by simp [actL]
    rw [e]
    refine ⟨_, _, _, rfl, r2, World.ownsRow_nil _ _ _ _, ?_, fun i hi => by simp [Value.ownBlock] at hi, (hbx.mono hB).trans b2, (Aside.of_below hbx).trans s2⟩
    unfold IRow
    rw [List.length_map, List.map_map]
    exact World.ownsRow.mono o1 hbx.size
  have e0 : (((d : Nat) : Int) == 0) = false := by simp; omega
  have e1 : (((d : Nat) : Int) == 1) = false := by simp; omega
  have e2 : (((d : Nat) : Int) == 2) = false := by simp; omega
  have e3 : (((d : Nat) : Int) == 3) = false := by simp; omega
  have hbx := aside_box w (.cells #[.int .u8 (d : Int), .int .u64 (x : Int), .int .u64 (y : Int)] 39)
  go_enter Try.func14, Try.ntmps14
  go_wp2_with fail
  go_returns
  have e : actL L b d x y = ⟨false, 0, [], [], L, b⟩ := by simp [actL, h0, h1, h2, h3]
  rw [e]
  exact ⟨v, _, _, rfl, h.below hbx, World.ownsRow_nil _ _ _ _, World.ownsRow_nil _ _ _ _, fun i hi => by simp [Value.ownBlock] at hi, hbx.mono hB, Aside.of_below hbx⟩
end Go.Proofs.Ytlenmhclnmcljaa
