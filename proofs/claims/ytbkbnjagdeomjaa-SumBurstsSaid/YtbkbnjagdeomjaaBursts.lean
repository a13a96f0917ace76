/- SumBursts: texts that differ within four bytes side by side have distinct sums; a sum does not hang on where a text is cut. -/
import Derived.Test.YtbkbnjagdeomjaaRows
import Derived.Test.YtbkbnjagdeomjaaOf
import Derived.Test.YtbkbnjagdeomjaaRegion
import Derived.Test.YtbkbnjagdeomjaaMix
import Derived.ProofKit
import Derived.OpenShut
import Derived.Deep.DeepCutAuto
import Derived.Lib.ConvBytes
namespace Go.Proofs.Ytbkbnjagdeomjaa
open Go.ChangeShapes Go.WideShapes Go.ChangeAt Go.RowKit
open Go.ChangeMaps (open_string shut_string)

/-- The bytes that a row of cells holds, not frozen. -/
def BytesAt (w : World) (g : Nat) (l : List UInt8) : Prop := ∀ p (h : p < l.length), w.cell? ⟨g, p, none⟩ = some (.int .u8 (l[p].toNat : Int)) ∧ w.frozen? ⟨g, p, none⟩ = false
theorem TabAt.below {w w' : World} {g : Nat} {T : Nat → Nat} (h : TabAt w g T) (hb : Below w.heap.size w w') : TabAt w' g T := fun j hj =>
  ⟨(h j hj).1, (hb.cell (World.block_lt_of_cell? w _ (h j hj).2)).trans (h j hj).2⟩
theorem BytesAt.set {w : World} {g : Nat} {l : List UInt8} (h : BytesAt w g l) (p : Nat) (b : UInt8) : BytesAt (w.setCell ⟨g, p, none⟩ (.int .u8 (b.toNat : Int))) g (l.set p b) := fun q hq => by
  rw [List.length_set] at hq
  obtain ⟨h1, h2⟩ := h q hq
  refine ⟨?_, by rw [World.frozen?_setCell]; exact h2⟩
  rw [List.getElem_set]
  by_cases e : p = q
  · subst e; rw [if_pos rfl]; exact World.cell?_setCell_same w _ _ h1
  · rw [if_neg e, World.cell?_setCell_other w _ _ _ (by simp only [ne_eq, Addr.mk.injEq]; omega)]; exact h1

theorem conv_any (w : World) (s : ByteArray) : ∃ cap W, (convert 9 34 (.string s)).run Try.prog w = .ok (.slice (some ⟨w.heap.size, 0, none⟩) s.size cap) W ∧ Below w.heap.size w W ∧ BytesAt W w.heap.size s.data.toList ∧ w.heap.size < W.heap.size := by
  refine ⟨_, _, Lib.run_convert_string_bytes w 9 34 5 s Try.underlying9 Try.underlying34 Try.underlying5, ⟨?_, ?_, ?_, ?_, fun k hk => Lib.bytesWorld_at_old w 5 s k hk⟩, fun p hp => ⟨?_, ?_⟩, by rw [Lib.bytesWorld_size]; omega⟩
  · simp [Lib.bytesWorld, World.freeze]; rfl
  · simp [Lib.bytesWorld, World.freeze]
  · simp [Lib.bytesWorld, World.freeze]; rfl
  · rw [Lib.bytesWorld_size]; omega
  · have hp' : p < s.size := by simpa using hp
    rw [Lib.bytesWorld_cell w 5 s p hp', List.getD_eq_getElem?_getD, List.getElem?_eq_getElem hp]; rfl
  · have hp' : p < s.size := by simpa using hp
    have hs : p < (Lib.bytesCells w 5 s).size := by simp [Lib.bytesCells]; omega
    have := Lib.bytesWorld_at_new w 5 s
    unfold World.frozen?
    rw [this]
    simp
    omega

theorem mix_store {b m j : Nat} (hb : b < 256) : bits .xor .u8 (b : Int) ((m : Int) / 2 ^ (8 * j) % 256) = (((UInt8.ofNat (b ^^^ (m / 2 ^ (8 * j) % 256))).toNat : Nat) : Int) := by
  have h1 : m / 2 ^ (8 * j) % 256 < 256 := Nat.mod_lt _ (by omega)
  have e : ((m : Int) / 2 ^ (8 * j) % 256) = ((m / 2 ^ (8 * j) % 256 : Nat) : Int) := by simp
  rw [e, u8_xor_nat b _ hb h1]
  have := xor_lt8 hb h1
  rw [UInt8.toNat_ofNat_of_lt' (by simpa using this)]
theorem strs_one {w : World} {g : Nat} {ss : List ByteArray} {cs : Array Value} (hg : g = w.heap.size) (hc : cs.toList = ss.map Value.string) (hl : ∀ s ∈ ss, s.size ≤ maxLen) : StrsAt (w.alloc (.cells cs 9)) (some ⟨g, 0, none⟩) ss := by
  subst hg
  exact strs_block (heap_alloc_last w _) hc hl
theorem StrsAt.below {w w' : World} {A : Option Addr} {ss : List ByteArray} (h : StrsAt w A ss) (hb : Below w.heap.size w w') : StrsAt w' A ss := fun k hk => by
  obtain ⟨b, off, e, hc, hl⟩ := h k hk
  exact ⟨b, off, e, (hb.cell (World.block_lt_of_cell? w _ hc)).trans hc, hl⟩
theorem of_for {Φ : Value → World → Prop} (g : Nat) (A : Option Addr) (n cap : Nat) (ss : List ByteArray) (w : World) (hT : TabAt w g ent) (hS : StrsAt w A ss) (hn : n = ss.length) (hn63 : n ≤ 9223372036854775807)
    (hΦ : ∀ w', Φ (.int .u32 ((sumT ent (joined ss) : Nat) : Int)) w') :
    Calls Try.prog 9 #[.pointer (some ⟨g, 0, none⟩), .slice A n cap] w fun e w' => ∃ v, e = .returned v ∧ Φ v w' ∧ Below w.heap.size w w' := by
  refine (of_at g ent A n cap ss w hT hS hn hn63).mono ?_
  rintro e w' ⟨rfl, q, rfl⟩
  exact ⟨_, rfl, hΦ _, blw_draws (Below.refl _ _) q⟩
theorem conv_back {w : World} {g : Nat} {l : List UInt8} (h : BytesAt w g l) (cap : Nat) : (convert 34 9 (.slice (some ⟨g, 0, none⟩) l.length cap)).run Try.prog w = .ok (.string ⟨l.toArray⟩) w :=
  run_convert_bytes_back w 34 9 5 ⟨g, 0, none⟩ cap l Try.underlying34 Try.underlying5 Try.underlying9 (fun j hj => by
    have e : (⟨g, 0, none⟩ : Addr).add j = ⟨g, j, none⟩ := by unfold Addr.add; split <;> simp_all
    rw [e]; exact (h j hj).1)
theorem BytesAt.below {w w' : World} {g : Nat} {l : List UInt8} (h : BytesAt w g l) (hb : Below w.heap.size w w') : BytesAt w' g l := fun p hp =>
  ⟨(hb.cell (World.block_lt_of_cell? w _ (h p hp).1)).trans (h p hp).1, (hb.frozen (World.block_lt_of_cell? w _ (h p hp).1)).trans (h p hp).2⟩
theorem joined_cut (s : ByteArray) (D : Nat) : joined [s.extract 0 D, s.extract D s.size] = s.data.toList := by
  simp [joined]
  rw [List.take_of_length_le (l := List.drop D _) (by simp), List.take_append_drop]
theorem eq_both {X Y : Nat} {L : List UInt8} {s B : ByteArray} (h : X = Y ↔ L = s.data.toList) (hB : B.data.toList = L) : (((X : Nat) : Int) == ((Y : Nat) : Int)) = (B.toList == s.toList) := by
  have e : (B.toList = s.toList) ↔ L = s.data.toList := by rw [← hB, ByteArray.toList_eq, ByteArray.toList_eq]
  rw [Bool.eq_iff_iff, beq_iff_eq, beq_iff_eq, e, ← h]
  omega
theorem below_alloc (w : World) (o : Obj) : Below w.heap.size w (w.alloc o) := (Below.refl _ _).alloc (Nat.le_refl _) o

set_option maxRecDepth 100000 in
set_option maxHeartbeats 400000 in
theorem bursts_any (s0 : ByteArray) (a c m : Nat) (w : World) (hs : s0.size ≤ maxLen) (ha : a < 65536) (hc : c < 65536) :
    Calls Try.prog 6 #[.string s0, .int .u16 (a : Int), .int .u16 (c : Int), .int .u32 (m : Int)] w fun e w' => e = .returned (.bool true) ∧ Below w.heap.size w w' := by
  unfold maxLen at hs
  have hz := zero24.1
  obtain ⟨cs, hcs⟩ : ∃ cs : Array Value, Array.replicate 256 (Value.int .u32 0) = cs := ⟨_, rfl⟩
  rw [hcs] at hz
  have hcs0 : cs.size = 256 := by rw [← hcs]; simp
  have HI := Lib.hid zero24.2
  have HC0 := Lib.hid hcs0
  clear hcs hcs0
  go_enter Try.func6, Try.ntmps6
  go_upto_if 16 with (fail)
  go_cut [0] (fun v wx => ∃ s : ByteArray, v = .string s ∧ s.size ≤ 3000 ∧ wx = w)
  case first =>
    go_wp2_with fail
    all_goals go_meet
    · exact ⟨_, rfl, by simp; omega, rfl⟩
    · exact ⟨_, rfl, by omega, rfl⟩
  case rest =>
    obtain ⟨s, rfl, hs3, rfl⟩ := hcut
    by_cases h0 : s.size = 0
    · have h0' : ((s.size : Nat) : Int) = 0 := by omega
      go_wp2_with (first
        | (go_at_call 8; refine (make_any _).mono ?_; rintro e w1 ⟨⟨C, hC, rfl⟩, hb⟩)
        | (refine wpList_store_row rfl 24 (.tmp 9) (.tmp 19) rfl w1.heap.size C rfl rfl 24 cs (heap_alloc_last w1 _) (by rw [hC.1]; exact HI.out) (by rw [hC.1, HC0.out]) (upTo_all hC) ?_; rw [World.setRow_alloc_new]))
      have hd0 : s.data.toList = [] := List.eq_nil_of_length_eq_zero (by simpa using h0)
      have hj0 : ((sumT ent (joined [s, s]) : Nat) : Int) = 0 := by
        have e : joined [s, s] = [] := by simp [joined, hd0]
        rw [e]
        exact congrArg Nat.cast (show sumT ent [] = 0 by kernel_rfl)
      refine (of_at w1.heap.size ent _ 2 2 [s, s] _ ((tabAt_block hC (heap_alloc_last w1 _)).below (below_alloc _ _)) (strs_one (by simp) rfl (by simp only [List.mem_cons, List.not_mem_nil, or_false]; unfold maxLen; rintro x (rfl | rfl) <;> omega)) rfl (by omega)).mono ?_
      rintro e w2 ⟨he, q, rfl⟩
      rw [hj0] at he
      subst he
      clear hj0
      go_wp2_with fail
      refine (awake_any _).mono ?_
      rintro e w2 ⟨rfl, hb2⟩
      go_wp2_with fail
      go_ret
      have hsz := hb.size
      exact ⟨rfl, (blw_draws ((hb.alloc hsz _).alloc (by simp; omega) _) q).trans (hb2.mono (by simp; omega))⟩
    · have h0' : (((s.size : Nat) : Int) == 0) = false := beq_eq_false_iff_ne.2 (by omega)
      obtain ⟨K, hK⟩ : ∃ K : Nat, a % s.size = K := ⟨_, rfl⟩
      have hKl : K < s.size := hK ▸ Nat.mod_lt _ (by omega)
      have hKi : (a : Int) % (s.size : Int) = (K : Int) := by rw [← hK]; rfl
      obtain ⟨D, hD⟩ : ∃ D : Nat, c % s.size = D := ⟨_, rfl⟩
      have hDl : D < s.size := hD ▸ Nat.mod_lt _ (by omega)
      have hDi : (c : Int) % (s.size : Int) = (D : Int) := by rw [← hD]; rfl
      clear hK hD
      go_wp2_with (first
        | (go_at_call 8; refine (make_any _).mono ?_; rintro e w1 ⟨⟨C, hC, rfl⟩, hb⟩)
        | (refine wpList_store_row rfl 24 (.tmp 9) (.tmp 19) rfl w1.heap.size C rfl rfl 24 cs (heap_alloc_last w1 _) (by rw [hC.1]; exact HI.out) (by rw [hC.1, HC0.out]) (upTo_all hC) ?_; rw [World.setRow_alloc_new]))
      obtain ⟨cap, W2, hrun, hbel, hby, hlt2⟩ := conv_any (w1.alloc (.cells C 24)) s
      have hb2 : Below wc.heap.size wc W2 := (hb.alloc hb.size _).trans (hbel.mono (by have := hb.size; simp; omega))
      have ht2 : TabAt W2 w1.heap.size ent := (tabAt_block hC (heap_alloc_last w1 _)).below hbel
      have hlt3 : w1.heap.size + 1 < W2.heap.size := by simpa using hlt2
      have hby' : BytesAt W2 (w1.heap.size + 1) s.data.toList := by simpa using hby
      have HB := Lib.hid hb2
      have HT := Lib.hid ht2
      have HY := Lib.hid hby'
      clear hbel hby hlt2 hb2 ht2 hby' hz
      rw [hrun, Result.andThen_ok, Oper.upon_value]
      clear hrun
      simp only [World.size_alloc]
      go_wp2_with fail
      rw [hKi]
      clear hKi
      go_loopw [12] (fun i wr => ∃ j : Nat, j ≤ 4 ∧ i = .int .i64 j ∧ Hid (Below wc.heap.size wc wr) ∧ Hid (TabAt wr w1.heap.size ent) ∧ w1.heap.size + 1 < wr.heap.size ∧ Hid (BytesAt wr (w1.heap.size + 1) (mix s.data.toList K m j))) (fun i _ => 4 - (intOf i).toNat)
      case atStart => exact ⟨0, by omega, rfl, HB, HT, hlt3, HY⟩
      case round =>
        clear HB HT HY hlt3
        obtain ⟨j, hj, rfl, HB, HT, hlt3, HY⟩ := hrel
        have hml := mix_length s.data.toList K m j
        obtain ⟨L, hL⟩ : ∃ L, mix s.data.toList K m j = L := ⟨_, rfl⟩
        rw [hL] at HY hml
        have hLs : L.length = s.size := by simpa using hml
        have HL := Lib.hid hL
        have HLS := Lib.hid hLs
        clear hL hml hLs
        by_cases hgo : j < 4 ∧ K + j < s.size
        · obtain ⟨hj4, hkj⟩ := hgo
          obtain ⟨hc1, hc2⟩ := HY.out (K + j) (by rw [HLS.out]; exact hkj)
          obtain ⟨b, hb0⟩ : ∃ b : Nat, (L[K + j]'(by rw [HLS.out]; exact hkj)).toNat = b := ⟨_, rfl⟩
          rw [hb0] at hc1
          have HBB := Lib.hid hb0
          clear hb0
          go_wp2_with fail
          have hst := mix_store (b := b) (m := m) (j := j) (HBB.out ▸ byte_lt _)
          rw [hst]
          go_roundw
          case rel =>
            refine ⟨j + 1, by omega, by go_num, HB.out.setCell (by have := hb.size; simp; omega) _, fun i hi => ⟨(HT.out i hi).1, ?_⟩, by simpa using hlt3, ?_⟩
            · rw [World.cell?_setCell_other _ _ _ _ (by simp)]; exact (HT.out i hi).2
            · have := HY.out.set (K + j) (UInt8.ofNat (b ^^^ (m / 2 ^ (8 * j) % 256)))
              simp only [mix, HL.out]
              rw [List.getD_eq_getElem?_getD, List.getElem?_eq_getElem (by rw [HLS.out]; exact hkj), Option.getD_some, HBB.out]
              exact this
          case measure => simp [intOf]; omega
        · go_wp2_with fail
          all_goals
            have hms := mix_sum s.data.toList K m j hj
            rw [HL.out] at hms
            obtain ⟨B, hB⟩ : ∃ B : ByteArray, (⟨L.toArray⟩ : ByteArray) = B := ⟨_, rfl⟩
            have hBd : B.data.toList = L := by rw [← hB]
            have hBs : B.size = s.size := by rw [← HLS.out, ← hBd]; simp
            have hj1 : sumT ent (joined [s]) = sumT ent s.data.toList := by simp [joined]
            have hj2 : sumT ent (joined [B]) = sumT ent L := by simp [joined, hBd]
            have hj3 : sumT ent (joined [s.extract 0 D, s.extract D s.size]) = sumT ent s.data.toList := by rw [joined_cut s D]
            have he0 : (s.extract 0 D).size ≤ 3000 := by simp; omega
            have he1 : (s.extract D s.size).size ≤ 3000 := by simp; omega
            have hDl' : ((D : Nat) : Int) ≤ (s.size : Int) := by omega
            obtain ⟨X, hX⟩ : ∃ X : Nat, sumT ent s.data.toList = X := ⟨_, rfl⟩
            obtain ⟨Y, hY⟩ : ∃ Y : Nat, sumT ent L = Y := ⟨_, rfl⟩
            rw [hX] at hj1 hj3 hms
            rw [hY] at hj2 hms
            have heq12 := eq_both hms hBd
            refine wp_region_steps (by kernel_rfl) (by kernel_rfl) (by kernel_rfl)
              [fun v _ => v = .string s,
               fun v w => ∃ g, v = .slice (some ⟨g, 0, none⟩) 1 1 ∧ StrsAt w (some ⟨g, 0, none⟩) [s],
               fun v _ => v = .int .u32 (X : Int),
               fun v _ => v = .slice (some ⟨w1.heap.size + 1, 0, none⟩) s.size cap,
               fun v _ => v = .string B,
               fun v w => ∃ g, v = .slice (some ⟨g, 0, none⟩) 1 1 ∧ StrsAt w (some ⟨g, 0, none⟩) [B],
               fun v _ => v = .int .u32 (Y : Int),
               fun v _ => v = .bool ((X : Int) == (Y : Int)),
               fun v _ => v = .slice (some ⟨w1.heap.size + 1, 0, none⟩) s.size cap,
               fun v _ => v = .string B,
               fun v _ => v = .string s,
               fun v _ => v = .bool (B.toList == s.toList),
               fun v _ => v = .bool true,
               fun v _ => v = .bool true,
               fun v _ => v = .string s,
               fun v _ => v = .int .i64 (D : Int),
               fun v _ => v = .string (s.extract 0 D),
               fun v _ => v = .string s,
               fun v _ => v = .int .i64 (D : Int),
               fun v _ => v = .string (s.extract D s.size),
               fun v w => ∃ g, v = .slice (some ⟨g, 0, none⟩) 2 2 ∧ StrsAt w (some ⟨g, 0, none⟩) [s.extract 0 D, s.extract D s.size],
               fun v _ => v = .int .u32 (X : Int),
               fun v _ => v = .string s,
               fun v w => ∃ g, v = .slice (some ⟨g, 0, none⟩) 1 1 ∧ StrsAt w (some ⟨g, 0, none⟩) [s],
               fun v _ => v = .int .u32 (X : Int),
               fun v _ => v = .bool true,
               fun v _ => v = .bool true,
               fun v _ => v = .bool true,
               fun v _ => v = .bool true,
               fun v _ => v = .bool true,
               fun v _ => v = .bool true] ?_ ?_ ?_
            · intro p hp v w w' hb' h
              simp only [List.mem_cons, List.not_mem_nil, or_false] at hp
              rcases hp with rfl | rfl | rfl | rfl | rfl | rfl | rfl | rfl | rfl | rfl | rfl | rfl | rfl | rfl | rfl | rfl | rfl | rfl | rfl | rfl | rfl | rfl | rfl | rfl | rfl | rfl | rfl | rfl | rfl | rfl | rfl <;> first
                | exact h
                | (obtain ⟨g, e, hg⟩ := h; exact ⟨g, e, hg.below hb'⟩)
            · refine ⟨fun a w hF ho => ?_, ?_⟩
              · have f0 : a.tmps[0]? = some (.string s) := (hF.old 0 (no_dst (by kernel_rfl))).trans rfl
                exact step_val ho (wanted_none rfl) (by simp [execOp, Act.eval, f0]) rfl (Below.refl _ _)
              refine ⟨fun a w hF ho => ?_, ?_⟩
              · obtain ⟨_, f73, rfl⟩ := hF.val 0 _ 73 (by kernel_rfl) rfl rfl
                exact step_val ho (wanted_none rfl) (v := .slice (some ⟨w.heap.size, 0, none⟩) 1 1) (w' := w.alloc (.cells #[.string s] 9)) (by simp [execOp, Act.eval, f73, go_sem]) ⟨w.heap.size, rfl, strs_one rfl rfl (by simp only [List.mem_singleton]; unfold maxLen; rintro x rfl; omega)⟩ (below_alloc _ _)
              refine ⟨fun a w hF ho => ?_, ?_⟩
              · have f9 : a.tmps[9]? = some (.pointer (some ⟨w1.heap.size, 0, none⟩)) := (hF.old 9 (no_dst (by kernel_rfl))).trans rfl
                obtain ⟨_, f74, g, rfl, hg⟩ := hF.val 1 _ 74 (by kernel_rfl) rfl rfl
                refine step_call ho (wanted_none rfl) (f := 9) (args := #[.pointer (some ⟨w1.heap.size, 0, none⟩), .slice (some ⟨g, 0, none⟩) 1 1]) (by simp [Act.eval, f9, f74, go_sem]) ?_
                exact of_for (Φ := fun v _ => v = .int .u32 (X : Int)) _ _ _ _ [s] _ (HT.out.below hF.world) hg rfl (by omega) (fun _ => by rw [hj1])
              refine ⟨fun a w hF ho => ?_, ?_⟩
              · have f10 : a.tmps[10]? = some (.slice (some ⟨w1.heap.size + 1, 0, none⟩) s.size cap) := (hF.old 10 (no_dst (by kernel_rfl))).trans rfl
                exact step_val ho (wanted_none rfl) (by simp [execOp, Act.eval, f10]) rfl (Below.refl _ _)
              refine ⟨fun a w hF ho => ?_, ?_⟩
              · obtain ⟨_, f76, rfl⟩ := hF.val 3 _ 76 (by kernel_rfl) rfl rfl
                refine step_val ho (wanted_none rfl) (v := .string B) (w' := w) ?_ rfl (Below.refl _ _)
                have hr := conv_back (HY.out.below hF.world) cap
                rw [hB, HLS.out] at hr
                simp [execOp, Act.eval, f76, hr]
              refine ⟨fun a w hF ho => ?_, ?_⟩
              · obtain ⟨_, f77, rfl⟩ := hF.val 4 _ 77 (by kernel_rfl) rfl rfl
                exact step_val ho (wanted_none rfl) (v := .slice (some ⟨w.heap.size, 0, none⟩) 1 1) (w' := w.alloc (.cells #[.string B] 9)) (by simp [execOp, Act.eval, f77, go_sem]) ⟨w.heap.size, rfl, strs_one rfl rfl (by simp only [List.mem_singleton]; unfold maxLen; rintro x rfl; omega)⟩ (below_alloc _ _)
              refine ⟨fun a w hF ho => ?_, ?_⟩
              · have f9 : a.tmps[9]? = some (.pointer (some ⟨w1.heap.size, 0, none⟩)) := (hF.old 9 (no_dst (by kernel_rfl))).trans rfl
                obtain ⟨_, f78, g, rfl, hg⟩ := hF.val 5 _ 78 (by kernel_rfl) rfl rfl
                refine step_call ho (wanted_none rfl) (f := 9) (args := #[.pointer (some ⟨w1.heap.size, 0, none⟩), .slice (some ⟨g, 0, none⟩) 1 1]) (by simp [Act.eval, f9, f78, go_sem]) ?_
                exact of_for (Φ := fun v _ => v = .int .u32 (Y : Int)) _ _ _ _ [B] _ (HT.out.below hF.world) hg rfl (by omega) (fun _ => by rw [hj2])
              refine ⟨fun a w hF ho => ?_, ?_⟩
              · obtain ⟨_, f75, rfl⟩ := hF.val 2 _ 75 (by kernel_rfl) rfl rfl
                obtain ⟨_, f79, rfl⟩ := hF.val 6 _ 79 (by kernel_rfl) rfl rfl
                exact step_val ho (wanted_none rfl) (by simp [execOp, Act.eval, f75, f79, go_sem]) rfl (Below.refl _ _)
              refine ⟨fun a w hF ho => ?_, ?_⟩
              · have f10 : a.tmps[10]? = some (.slice (some ⟨w1.heap.size + 1, 0, none⟩) s.size cap) := (hF.old 10 (no_dst (by kernel_rfl))).trans rfl
                exact step_val ho (wanted_none rfl) (by simp [execOp, Act.eval, f10]) rfl (Below.refl _ _)
              refine ⟨fun a w hF ho => ?_, ?_⟩
              · obtain ⟨_, f81, rfl⟩ := hF.val 8 _ 81 (by kernel_rfl) rfl rfl
                refine step_val ho (wanted_none rfl) (v := .string B) (w' := w) ?_ rfl (Below.refl _ _)
                have hr := conv_back (HY.out.below hF.world) cap
                rw [hB, HLS.out] at hr
                simp [execOp, Act.eval, f81, hr]
              refine ⟨fun a w hF ho => ?_, ?_⟩
              · have f0 : a.tmps[0]? = some (.string s) := (hF.old 0 (no_dst (by kernel_rfl))).trans rfl
                exact step_val ho (wanted_none rfl) (by simp [execOp, Act.eval, f0]) rfl (Below.refl _ _)
              refine ⟨fun a w hF ho => ?_, ?_⟩
              · obtain ⟨_, f82, rfl⟩ := hF.val 9 _ 82 (by kernel_rfl) rfl rfl
                obtain ⟨_, f83, rfl⟩ := hF.val 10 _ 83 (by kernel_rfl) rfl rfl
                exact step_val ho (wanted_none rfl) (by simp [execOp, Act.eval, f82, f83, go_sem]) rfl (Below.refl _ _)
              refine ⟨fun a w hF ho => ?_, ?_⟩
              · obtain ⟨_, f80, rfl⟩ := hF.val 7 _ 80 (by kernel_rfl) rfl rfl
                obtain ⟨_, f84, rfl⟩ := hF.val 11 _ 84 (by kernel_rfl) rfl rfl
                exact step_val ho (wanted_none rfl) (v := .bool true) (by simp [execOp, Act.eval, f80, f84, go_sem]; exact heq12) rfl (Below.refl _ _)
              refine ⟨fun a w hF ho => ?_, ?_⟩
              · obtain ⟨_, f85, rfl⟩ := hF.val 12 _ 85 (by kernel_rfl) rfl rfl
                exact step_val ho (wanted_none rfl) (by simp [execOp, Act.eval, f85]) rfl (Below.refl _ _)
              refine ⟨fun a w hF ho => ?_, ?_⟩
              · obtain ⟨_, f86, rfl⟩ := hF.val 13 _ 86 (by kernel_rfl) rfl rfl
                have f0 : a.tmps[0]? = some (.string s) := (hF.old 0 (no_dst (by kernel_rfl))).trans rfl
                exact step_val ho (wanted_some rfl rfl rfl f86) (by simp [execOp, Act.eval, f0]) rfl (Below.refl _ _)
              refine ⟨fun a w hF ho => ?_, ?_⟩
              · obtain ⟨_, f86, rfl⟩ := hF.val 13 _ 86 (by kernel_rfl) rfl rfl
                have f13 : a.tmps[13]? = some (.int .i64 (D : Int)) := (hF.old 13 (no_dst (by kernel_rfl))).trans (by first | rfl | exact congrArg (fun x => some (Value.int IntKind.i64 x)) hDi)
                exact step_val ho (wanted_some rfl rfl rfl f86) (by simp [execOp, Act.eval, f13]) rfl (Below.refl _ _)
              refine ⟨fun a w hF ho => ?_, ?_⟩
              · obtain ⟨_, f86, rfl⟩ := hF.val 13 _ 86 (by kernel_rfl) rfl rfl
                obtain ⟨_, f87, rfl⟩ := hF.val 14 _ 87 (by kernel_rfl) rfl rfl
                obtain ⟨_, f88, rfl⟩ := hF.val 15 _ 88 (by kernel_rfl) rfl rfl
                exact step_val ho (wanted_some rfl rfl rfl f86) (v := .string (s.extract 0 D)) (by simp [execOp, Act.eval, f87, f88, go_sem, hDl']) rfl (Below.refl _ _)
              refine ⟨fun a w hF ho => ?_, ?_⟩
              · obtain ⟨_, f86, rfl⟩ := hF.val 13 _ 86 (by kernel_rfl) rfl rfl
                have f0 : a.tmps[0]? = some (.string s) := (hF.old 0 (no_dst (by kernel_rfl))).trans rfl
                exact step_val ho (wanted_some rfl rfl rfl f86) (by simp [execOp, Act.eval, f0]) rfl (Below.refl _ _)
              refine ⟨fun a w hF ho => ?_, ?_⟩
              · obtain ⟨_, f86, rfl⟩ := hF.val 13 _ 86 (by kernel_rfl) rfl rfl
                have f13 : a.tmps[13]? = some (.int .i64 (D : Int)) := (hF.old 13 (no_dst (by kernel_rfl))).trans (by first | rfl | exact congrArg (fun x => some (Value.int IntKind.i64 x)) hDi)
                exact step_val ho (wanted_some rfl rfl rfl f86) (by simp [execOp, Act.eval, f13]) rfl (Below.refl _ _)
              refine ⟨fun a w hF ho => ?_, ?_⟩
              · obtain ⟨_, f86, rfl⟩ := hF.val 13 _ 86 (by kernel_rfl) rfl rfl
                obtain ⟨_, f90, rfl⟩ := hF.val 17 _ 90 (by kernel_rfl) rfl rfl
                obtain ⟨_, f91, rfl⟩ := hF.val 18 _ 91 (by kernel_rfl) rfl rfl
                exact step_val ho (wanted_some rfl rfl rfl f86) (v := .string (s.extract D s.size)) (by simp [execOp, Act.eval, f90, f91, go_sem, hDl']) rfl (Below.refl _ _)
              refine ⟨fun a w hF ho => ?_, ?_⟩
              · obtain ⟨_, f86, rfl⟩ := hF.val 13 _ 86 (by kernel_rfl) rfl rfl
                obtain ⟨_, f89, rfl⟩ := hF.val 16 _ 89 (by kernel_rfl) rfl rfl
                obtain ⟨_, f92, rfl⟩ := hF.val 19 _ 92 (by kernel_rfl) rfl rfl
                exact step_val ho (wanted_some rfl rfl rfl f86) (v := .slice (some ⟨w.heap.size, 0, none⟩) 2 2) (w' := w.alloc (.cells #[.string (s.extract 0 D), .string (s.extract D s.size)] 9)) (by simp [execOp, Act.eval, f89, f92, go_sem]) ⟨w.heap.size, rfl, strs_one rfl rfl (by simp only [List.mem_cons, List.not_mem_nil, or_false]; unfold maxLen; rintro x (rfl | rfl) <;> omega)⟩ (below_alloc _ _)
              refine ⟨fun a w hF ho => ?_, ?_⟩
              · obtain ⟨_, f86, rfl⟩ := hF.val 13 _ 86 (by kernel_rfl) rfl rfl
                have f9 : a.tmps[9]? = some (.pointer (some ⟨w1.heap.size, 0, none⟩)) := (hF.old 9 (no_dst (by kernel_rfl))).trans rfl
                obtain ⟨_, f93, g, rfl, hg⟩ := hF.val 20 _ 93 (by kernel_rfl) rfl rfl
                refine step_call ho (wanted_some rfl rfl rfl f86) (f := 9) (args := #[.pointer (some ⟨w1.heap.size, 0, none⟩), .slice (some ⟨g, 0, none⟩) 2 2]) (by simp [Act.eval, f9, f93, go_sem]) ?_
                exact of_for (Φ := fun v _ => v = .int .u32 (X : Int)) _ _ _ _ [s.extract 0 D, s.extract D s.size] _ (HT.out.below hF.world) hg rfl (by omega) (fun _ => by rw [hj3])
              refine ⟨fun a w hF ho => ?_, ?_⟩
              · obtain ⟨_, f86, rfl⟩ := hF.val 13 _ 86 (by kernel_rfl) rfl rfl
                have f0 : a.tmps[0]? = some (.string s) := (hF.old 0 (no_dst (by kernel_rfl))).trans rfl
                exact step_val ho (wanted_some rfl rfl rfl f86) (by simp [execOp, Act.eval, f0]) rfl (Below.refl _ _)
              refine ⟨fun a w hF ho => ?_, ?_⟩
              · obtain ⟨_, f86, rfl⟩ := hF.val 13 _ 86 (by kernel_rfl) rfl rfl
                obtain ⟨_, f95, rfl⟩ := hF.val 22 _ 95 (by kernel_rfl) rfl rfl
                exact step_val ho (wanted_some rfl rfl rfl f86) (v := .slice (some ⟨w.heap.size, 0, none⟩) 1 1) (w' := w.alloc (.cells #[.string s] 9)) (by simp [execOp, Act.eval, f95, go_sem]) ⟨w.heap.size, rfl, strs_one rfl rfl (by simp only [List.mem_singleton]; unfold maxLen; rintro x rfl; omega)⟩ (below_alloc _ _)
              refine ⟨fun a w hF ho => ?_, ?_⟩
              · obtain ⟨_, f86, rfl⟩ := hF.val 13 _ 86 (by kernel_rfl) rfl rfl
                have f9 : a.tmps[9]? = some (.pointer (some ⟨w1.heap.size, 0, none⟩)) := (hF.old 9 (no_dst (by kernel_rfl))).trans rfl
                obtain ⟨_, f96, g, rfl, hg⟩ := hF.val 23 _ 96 (by kernel_rfl) rfl rfl
                refine step_call ho (wanted_some rfl rfl rfl f86) (f := 9) (args := #[.pointer (some ⟨w1.heap.size, 0, none⟩), .slice (some ⟨g, 0, none⟩) 1 1]) (by simp [Act.eval, f9, f96, go_sem]) ?_
                exact of_for (Φ := fun v _ => v = .int .u32 (X : Int)) _ _ _ _ [s] _ (HT.out.below hF.world) hg rfl (by omega) (fun _ => by rw [hj1])
              refine ⟨fun a w hF ho => ?_, ?_⟩
              · obtain ⟨_, f86, rfl⟩ := hF.val 13 _ 86 (by kernel_rfl) rfl rfl
                obtain ⟨_, f94, rfl⟩ := hF.val 21 _ 94 (by kernel_rfl) rfl rfl
                obtain ⟨_, f97, rfl⟩ := hF.val 24 _ 97 (by kernel_rfl) rfl rfl
                exact step_val ho (wanted_some rfl rfl rfl f86) (v := .bool true) (by simp [execOp, Act.eval, f94, f97, go_sem]) rfl (Below.refl _ _)
              refine ⟨fun a w hF ho => ?_, ?_⟩
              · obtain ⟨_, f86, rfl⟩ := hF.val 13 _ 86 (by kernel_rfl) rfl rfl
                obtain ⟨_, f98, rfl⟩ := hF.val 25 _ 98 (by kernel_rfl) rfl rfl
                exact step_val ho (wanted_none rfl) (v := .bool true) (by simp [execOp, Act.eval, f86, f98, go_sem]) rfl (Below.refl _ _)
              refine ⟨fun a w hF ho => ?_, ?_⟩
              · obtain ⟨_, f99, rfl⟩ := hF.val 26 _ 99 (by kernel_rfl) rfl rfl
                exact step_val ho (wanted_none rfl) (by simp [execOp, Act.eval, f99]) rfl (Below.refl _ _)
              refine ⟨fun a w hF ho => ?_, ?_⟩
              · obtain ⟨_, f100, rfl⟩ := hF.val 27 _ 100 (by kernel_rfl) rfl rfl
                refine step_call ho (wanted_some rfl rfl rfl f100) (f := 10) (args := #[]) (by simp [go_sem]) ?_
                refine (awake_any w).mono ?_
                rintro e w' ⟨rfl, hb'⟩
                exact ⟨_, rfl, rfl, hb'⟩
              refine ⟨fun a w hF ho => ?_, ?_⟩
              · obtain ⟨_, f100, rfl⟩ := hF.val 27 _ 100 (by kernel_rfl) rfl rfl
                obtain ⟨_, f101, rfl⟩ := hF.val 28 _ 101 (by kernel_rfl) rfl rfl
                exact step_val ho (wanted_none rfl) (v := .bool true) (by simp [execOp, Act.eval, f100, f101, go_sem]) rfl (Below.refl _ _)
              refine ⟨fun a w hF ho => ?_, ?_⟩
              · obtain ⟨_, f102, rfl⟩ := hF.val 29 _ 102 (by kernel_rfl) rfl rfl
                exact step_val ho (wanted_none rfl) (by simp [execOp, Act.eval, f102]) rfl (Below.refl _ _)
              trivial
            · intro a w hF
              obtain ⟨_, f8, rfl⟩ := hF.val 30 _ 8 rfl rfl rfl
              go_wp2_with fail
              refine bodyPost_ret (v := .bool true) (by simp [results, Try.results6, f8, go_sem]) (hF.defers.trans rfl) ⟨rfl, HB.out.trans (hF.world.mono HB.out.size)⟩

theorem sumBursts_own : ownKnob Try.prog.godebug = none := by kernel_rfl
theorem sumBursts_laidOut : laidOutB Try.prog = true := by kernel_rfl
set_option maxRecDepth 100000 in
theorem sumBursts_lifted (os : Os) (started : os.Started) (H : Type) (enc : TypeId × Value → H) :
    ReturnsInHanded {} Try.checked os 6 .any (Rows.sumBurstsSpec.pre6 enc Try.prog Try.f6 Rows.sumBurstsRow.domain false) (Rows.sumBurstsSpec.post enc Try.prog Try.f6 false true false false) := by
  refine returnsInHanded_of_change (C := Try.checked) sumBursts_own started (by kernel_rfl) Try.func6
    (ChangeSpec.witness6 (enc := enc) (C := Try.checked) false ⟨#[], #[.string ByteArray.empty, .int .u16 0, .int .u16 0, .int .u32 0], []⟩ 8 (by kernel_rfl) (by kernel_rfl) (by kernel_rfl) (by kernel_rfl)) ?_
  intro W base args ds gs before hval0 hW hcnd _
  have hval : ∀ (j : Nat) t v, Try.f6.params[j]? = some t → args[j]? = some v → Value.okWide Try.prog W .any base t v := hval0
  have hW' := hW
  obtain ⟨p, q, hA0, hV, rfl, hfz, hnd⟩ := hW
  have hA : DataW.TrodAll enc Try.prog W 0 (fun _ => true) true Try.f6.params.toList args.toList ds p := hA0
  rw [Try.params6] at hA hval
  obtain ⟨v0, vs0, d0, ds0, p0, q0, hargs, rfl, rfl, h0, r0⟩ := trodAll_cons hA
  obtain ⟨v1, vs1, d1, ds1, p1, q1, rfl, rfl, rfl, h1, r1⟩ := trodAll_cons r0
  obtain ⟨v2, vs2, d2, ds2, p2, q2, rfl, rfl, rfl, h2, r2⟩ := trodAll_cons r1
  obtain ⟨v3, vs3, d3, ds3, p3, q3, rfl, rfl, rfl, h3, r3⟩ := trodAll_cons r2
  obtain ⟨rfl, rfl, rfl⟩ := trodAll_nil r3
  obtain rfl : args = #[v0, v1, v2, v3] := by cases args; simp_all
  obtain ⟨rfl, rfl⟩ := trodVars_none hV
  have k0 := h0
  have lt0 : ∀ x ∈ p0, x.block < W.heap.size := by obtain ⟨m, hm⟩ := k0; exact DataW.trod_lt m _ _ _ hm
  have k1 := h1
  have lt1 : ∀ x ∈ p1, x.block < W.heap.size := by obtain ⟨m, hm⟩ := k1; exact DataW.trod_lt m _ _ _ hm
  have k2 := h2
  have lt2 : ∀ x ∈ p2, x.block < W.heap.size := by obtain ⟨m, hm⟩ := k2; exact DataW.trod_lt m _ _ _ hm
  have k3 := h3
  have lt3 : ∀ x ∈ p3, x.block < W.heap.size := by obtain ⟨m, hm⟩ := k3; exact DataW.trod_lt m _ _ _ hm
  obtain ⟨s0, rfl, rfl, rfl, ws⟩ := open_string Try.underlying9 (hval 0 9 v0 rfl rfl) h0
  obtain ⟨a1, rfl, rfl, rfl, w1⟩ := open_int Try.underlying33 (hval 1 33 v1 rfl rfl) h1
  obtain ⟨a2, rfl, rfl, rfl, w2⟩ := open_int Try.underlying33 (hval 2 33 v2 rfl rfl) h2
  obtain ⟨a3, rfl, rfl, rfl, w3⟩ := open_int Try.underlying22 (hval 3 22 v3 rfl rfl) h3
  have b1 := bounds_u16 w1
  have b2 := bounds_u16 w2
  have b3 := bounds_u32 w3
  obtain ⟨n1, rfl⟩ : ∃ n : Nat, a1 = (n : Int) := ⟨a1.toNat, by omega⟩
  obtain ⟨n2, rfl⟩ : ∃ n : Nat, a2 = (n : Int) := ⟨a2.toNat, by omega⟩
  obtain ⟨n3, rfl⟩ : ∃ n : Nat, a3 = (n : Int) := ⟨a3.toNat, by omega⟩
  clear hA0 hval0
  clear hcnd
  refine (bursts_any s0 n1 n2 n3 W ws (by omega) (by omega)).mono fun e W' ⟨he, bel⟩ => ?_
  subst he
  exact ⟨_, rfl, _, _, _, [], _, [], hW', trodAll_mk1 (shut_bool Try.underlying4 _), (trodAll_cons_mk (Below.trod sumBursts_laidOut (by kernel_rfl) (of_decide_eq_true (by kernel_rfl)) k0 bel lt0) (trodAll_cons_mk (Below.trod sumBursts_laidOut (by kernel_rfl) (of_decide_eq_true (by kernel_rfl)) k1 bel lt1) (trodAll_cons_mk (Below.trod sumBursts_laidOut (by kernel_rfl) (of_decide_eq_true (by kernel_rfl)) k2 bel lt2) (trodAll_cons_mk (Below.trod sumBursts_laidOut (by kernel_rfl) (of_decide_eq_true (by kernel_rfl)) k3 bel lt3) trodAll_mk0)))), rfl, bel.frame _, fun h => by cases h⟩

theorem sumBursts_over : Rows.sumBurstsRow.holds Try.pinned (OpenSpec.ofChange Rows.sumBurstsSpec) :=
  OpenClaim.holds_of_wide 6 Try.f6 rfl rfl rfl rfl rfl rfl rfl ⟨rfl, rfl, rfl, rfl, rfl⟩ rfl rfl rfl rfl rfl (by kernel_rfl) Try.func6 (by kernel_rfl)
    (of_decide_eq_true (by kernel_rfl)) (by unfold Func.isWrapper; first | (rw [if_pos (by decide +kernel)]; kernel_rfl) | (rw [if_neg (by decide +kernel)]; exact ⟨rfl, rfl⟩))
    (fun os started H enc _ => sumBursts_lifted os started H enc)

/-- The given statement. -/
theorem sumBursts_proved : Rows.SumBurstsSaid := sumBursts_over
#print axioms sumBursts_proved
end Go.Proofs.Ytbkbnjagdeomjaa
