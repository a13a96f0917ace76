/- The walks of the reference's sum and of Of: what each call computes; neither turns memory. -/
import Derived.Test.YtbkbnjagdeomjaaMake
namespace Go.Proofs.Ytbkbnjagdeomjaa
open Go.RowKit

theorem ret_int {k : IntKind} {a b : Int} (h : a = b) : Ending.returned (.int k a) = .returned (.int k b) := by rw [h]
theorem xor_byte {n c : Nat} (hn : n < 4294967296) (hc : c < 256) : bits .xor .u32 (n : Int) (c : Int) = ((n ^^^ c : Nat) : Int) := u32_xor_nat n c hn (by omega)
theorem not_end {n : Nat} (hn : n < 4294967296) {T : Nat → Nat} {l m : List UInt8} (h : n = runT T 4294967295 l) (e : l = m) : bits .xor .u32 (n : Int) 4294967295 = ((sumT T m : Nat) : Int) := by
  have := u32_xor_nat n 4294967295 hn (by omega)
  subst h e
  exact this
theorem byte_lt (c : UInt8) : c.toNat < 256 := by have := c.toNat_lt; omega
theorem take_snoc (s : ByteArray) (k : Nat) (h : k < s.size) (r : Nat) (T : Nat → Nat) : runT T r (s.data.toList.take (k + 1)) = updT T (runT T r (s.data.toList.take k)) s[k].toNat := by
  rw [run_take T r _ k (by simpa using h)]; rfl

set_option maxRecDepth 100000 in
set_option maxHeartbeats 1000000 in
/-- The reference's sum of a text. -/
theorem refOf_any (s : ByteArray) (w : World) (hs : s.size ≤ maxLen) :
    Calls Try.prog 12 #[.string s] w fun e w' => e = .returned (.int .u32 ((sumT ent s.data.toList : Nat) : Int)) ∧ w' = w := by
  unfold maxLen at hs
  go_enter Try.func12, Try.ntmps12
  go_wp2
  go_loop [3, 4] (fun r i => ∃ k : Nat, k ≤ s.size ∧ i = .int .i64 k ∧ ∃ n : Nat, n < 4294967296 ∧ n = runT ent 4294967295 (s.data.toList.take k) ∧ r = .int .u32 (n : Int)) (fun _ i => s.size - (intOf i).toNat)
  case atStart => exact ⟨0, Nat.zero_le _, rfl, 4294967295, by omega, rfl, rfl⟩
  case round =>
    obtain ⟨k, hk, rfl, n, hn, hnk, rfl⟩ := hrel
    have HN := Lib.hid hnk
    clear hnk
    by_cases hlt : k < s.size
    · obtain ⟨c, hc⟩ : ∃ c : Nat, s[k].toNat = c := ⟨_, rfl⟩
      have hc8 : c < 256 := hc ▸ byte_lt _
      have hx : n ^^^ c < 4294967296 := xor_lt32 hn (by omega)
      have hts := take_snoc s k hlt 4294967295 ent
      have HT : Hid (turn 8 (n ^^^ c) = runT ent 4294967295 (s.data.toList.take (k + 1))) := by
        rw [hts, ← HN.out, upd_turn _ (by omega), hc]; rfl
      have hxx := xor_byte hn hc8
      clear hts
      obtain ⟨m, hm⟩ : ∃ m : Nat, n ^^^ c = m := ⟨_, rfl⟩
      rw [hm] at hx hxx HT
      clear hm
      go_wp2
      go_loop [3, 5] (fun r i => ∃ j : Nat, j ≤ 8 ∧ i = .int .i64 j ∧ ∃ n : Nat, n < 4294967296 ∧ n = turn j m ∧ r = .int .u32 (n : Int)) (fun _ i => 8 - (intOf i).toNat)
      case atStart => exact ⟨0, by omega, rfl, m, hx, rfl, rfl⟩
      case round =>
        clear hxx hc
        obtain ⟨j, hj, rfl, n, hn, hnk, rfl⟩ := hrel
        have HN := Lib.hid hnk
        clear hnk
        have hb := bit_lt hn
        have hb' : (bit n : Nat) = turn (j + 1) m := by rw [HN.out]; rfl
        have HB := Lib.hid hb'
        clear hb'
        go_wp2
        · have h : (((n : Nat) : Int) % 2 == 1) = true := by assumption
          go_round
          case rel => exact ⟨j + 1, by omega, by go_num, bit n, hb, HB.out, int_eq (bit_odd hn h)⟩
          case measure => simp [intOf]; omega
        · have h : (((n : Nat) : Int) % 2 == 1) = false := by assumption
          go_round
          case rel => exact ⟨j + 1, by omega, by go_num, bit n, hb, HB.out, int_eq (bit_even h)⟩
          case measure => simp [intOf]; omega
        · obtain rfl : j = 8 := by omega
          go_round
          case rel => exact ⟨k + 1, by omega, by go_num, n, hn, by rw [HN.out]; exact HT.out, rfl⟩
          case measure => simp [intOf]; omega
    · obtain rfl : k = s.size := by omega
      go_wp2
      go_ret
      exact ⟨ret_int (not_end hn HN.out (List.take_of_length_le (by simp))), rfl⟩

theorem not_end' {n : Nat} (hn : n < 4294967296) {T : Nat → Nat} {l m : List UInt8} (h : n = runT T 4294967295 l) (e : l = m) : bits .xor .u32 IntKind.u32.max (n : Int) = ((sumT T m : Nat) : Int) := by
  have := u32_xor_nat 4294967295 n (by omega) hn
  subst h e
  rw [Nat.xor_comm] at this
  exact this
theorem index_byte {m c : Nat} (hc : c < 256) : bits .xor .u8 (IntKind.u8.wrap (m : Int)) (c : Int) = ((m % 256 ^^^ c : Nat) : Int) := by
  rw [IntKind.wrap_u8, show ((m : Int) % 256) = ((m % 256 : Nat) : Int) by omega]
  exact u8_xor_nat _ _ (by omega) hc
theorem last_xor {m d c : Nat} {T : Nat → Nat} (hm : m < 4294967296) (ht : T d < 4294967296) (hd : m % 256 ^^^ c = d) : bits .xor .u32 ((m : Int) / 256) ((T d : Nat) : Int) = ((updT T m c : Nat) : Int) := by
  rw [show ((m : Int) / 256) = ((m / 256 : Nat) : Int) by omega]
  unfold updT
  rw [hd]
  exact u32_xor_nat _ _ (by omega) ht
/-- The table that a block holds. -/
def TabAt (w : World) (g : Nat) (T : Nat → Nat) : Prop := ∀ j, j < 256 → T j < 4294967296 ∧ w.cell? ⟨g, j, none⟩ = some (.int .u32 ((T j : Nat) : Int))
/-- The texts that a slice of strings holds. -/
def StrsAt (w : World) (A : Option Addr) (ss : List ByteArray) : Prop := ∀ k (h : k < ss.length), ∃ b off, A = some ⟨b, off, none⟩ ∧ w.cell? ⟨b, off + k, none⟩ = some (.string ss[k]) ∧ ss[k].size ≤ maxLen
/-- The bytes of texts, as of one. -/
def joined (ss : List ByteArray) : List UInt8 := ss.flatMap fun s => s.data.toList
theorem joined_take (ss : List ByteArray) (k : Nat) (h : k < ss.length) : joined (ss.take (k + 1)) = joined (ss.take k) ++ ss[k].data.toList := by
  unfold joined
  rw [List.take_succ_eq_append_getElem h, List.flatMap_append]
  simp

set_option maxRecDepth 100000 in
set_option maxHeartbeats 1000000 in
/-- Of, whatever table lies behind its receiver. -/
theorem of_any (g : Nat) (T : Nat → Nat) (A : Option Addr) (cap : Nat) (ss : List ByteArray) (w : World) (hT : TabAt w g T) (hS : StrsAt w A ss) (hn63 : ss.length ≤ 9223372036854775807) :
    Calls Try.prog 9 #[.pointer (some ⟨g, 0, none⟩), .slice A ss.length cap] w fun e w' => e = .returned (.int .u32 ((sumT T (joined ss) : Nat) : Int)) ∧ ∃ q, w' = w.drewN q := by
  go_enter Try.func9, Try.ntmps9
  go_wp2
  go_loopw [5, 13] (fun r i wr => ∃ k : Nat, k ≤ ss.length ∧ i = .int .i64 k ∧ (∃ n : Nat, n < 4294967296 ∧ n = runT T 4294967295 (joined (ss.take k)) ∧ r = .int .u32 (n : Int)) ∧ ∃ q, wr = w.drewN q) (fun _ i _ => ss.length - (intOf i).toNat)
  case atStart => exact ⟨0, Nat.zero_le _, rfl, ⟨4294967295, by omega, rfl, rfl⟩, 0, rfl⟩
  case round =>
    obtain ⟨k, hk, rfl, ⟨n, hn, hnk, rfl⟩, q, rfl⟩ := hrel
    have HN := Lib.hid hnk
    clear hnk
    by_cases hlt : k < ss.length
    · obtain ⟨b, off, rfl, hc, hsz⟩ := hS k hlt
      unfold maxLen at hsz
      obtain ⟨s, hs⟩ : ∃ s, ss[k] = s := ⟨_, rfl⟩
      rw [hs] at hc hsz
      have HS := Lib.hid hs
      have hc' : (w.drewN q).cell? ⟨b, off + k, none⟩ = some (.string s) := hc
      clear hs hc
      go_wp2
      go_loopw [5, 19] (fun r i wr => ∃ j : Nat, j ≤ s.size ∧ i = .int .i64 j ∧ (∃ m : Nat, m < 4294967296 ∧ m = runT T n (s.data.toList.take j) ∧ r = .int .u32 (m : Int)) ∧ ∃ q, wr = w.drewN q) (fun _ i _ => s.size - (intOf i).toNat)
      case atStart => exact ⟨0, Nat.zero_le _, rfl, ⟨n, hn, rfl, rfl⟩, q, rfl⟩
      case round =>
        clear hc' 
        obtain ⟨j, hj, rfl, ⟨m, hm, hmk, rfl⟩, q, rfl⟩ := hrel
        have HM := Lib.hid hmk
        clear hmk
        by_cases hjl : j < s.size
        · obtain ⟨c, hc⟩ : ∃ c : Nat, s[j].toNat = c := ⟨_, rfl⟩
          have hc8 : c < 256 := hc ▸ byte_lt _
          have hts := take_snoc s j hjl n T
          have HT : Hid (updT T m c = runT T n (s.data.toList.take (j + 1))) := by
            rw [hts, ← HM.out, hc]; rfl
          have hu := updT_lt (fun i hi => (hT i hi).1) hm hc8
          have hd8 : m % 256 ^^^ c < 256 := xor_lt8 (by omega) hc8
          have hx := index_byte (m := m) hc8
          obtain ⟨d, hd⟩ : ∃ d : Nat, m % 256 ^^^ c = d := ⟨_, rfl⟩
          rw [hd] at hd8 hx
          obtain ⟨ht1, ht2⟩ := hT d hd8
          have hv := last_xor hm ht1 hd
          have HV := Lib.hid hv
          have hd0 : (0 : Int) ≤ (d : Int) := by omega
          have hd1 : (d : Int) < 256 := by omega
          have hcell : w.cell? ⟨g, d, none⟩ = some (.int .u32 ((T d : Nat) : Int)) := ht2
          clear hts hv hd ht2
          go_wp2
          go_quiet (fail)
          go_wp2
          go_roundw
          case rel => exact ⟨j + 1, by omega, by go_num, ⟨_, hu, HT.out, int_eq HV.out⟩, _, rfl⟩
          case measure => simp [intOf]; omega
        · obtain rfl : j = s.size := by omega
          go_wp2
          go_roundw
          case rel => exact ⟨k + 1, by omega, by go_num, ⟨m, hm, by rw [HM.out, HN.out, List.take_of_length_le (l := s.data.toList) (by simp), joined_take ss k hlt, HS.out, runT_append], rfl⟩, _, rfl⟩
          case measure => simp [intOf]; omega
    · obtain rfl : k = ss.length := by omega
      go_wp2
      go_ret
      exact ⟨ret_int (not_end' hn HN.out (by rw [List.take_length])), _, rfl⟩

theorem of_at (g : Nat) (T : Nat → Nat) (A : Option Addr) (n cap : Nat) (ss : List ByteArray) (w : World) (hT : TabAt w g T) (hS : StrsAt w A ss) (hn : n = ss.length) (hn63 : n ≤ 9223372036854775807) :
    Calls Try.prog 9 #[.pointer (some ⟨g, 0, none⟩), .slice A n cap] w fun e w' => e = .returned (.int .u32 ((sumT T (joined ss) : Nat) : Int)) ∧ ∃ q, w' = w.drewN q := by
  subst hn
  exact of_any g T A cap ss w hT hS hn63

/-- Of at a nil table. -/
theorem of_nil (v : Value) (w : World) : Calls Try.prog 9 #[.pointer none, v] w fun e w' => e = .returned (.int .u32 0) ∧ w' = w := by
  go_enter Try.func9, Try.ntmps9
  go_wp2
  go_ret
  exact ⟨rfl, rfl⟩

theorem tabAt_block {w : World} {g : Nat} {C : Array Value} (hC : upTo 256 C) (h : w.heap[g]? = some (.cells C 24 (0, 0))) : TabAt w g ent :=
  fun j hj => ⟨ent_tab j hj, (cell_of_row _ _ _ _ _ _ h).trans (hC.2.1 j hj)⟩

theorem blw_draws {B : Nat} {a w : World} (h : Below B a w) (q : Nat) : Below B a (w.drewN q) := ⟨h.os, h.tape, h.output, h.size, h.block⟩
/-- The texts of a block that is known whole. -/
theorem strs_block {w : World} {g : Nat} {cs : Array Value} {t : TypeId} {ss : List ByteArray} (h : w.heap[g]? = some (.cells cs t (0, 0))) (hc : cs.toList = ss.map Value.string) (hl : ∀ s ∈ ss, s.size ≤ maxLen) :
    StrsAt w (some ⟨g, 0, none⟩) ss := fun k hk => by
  refine ⟨g, 0, rfl, ?_, hl _ (List.getElem_mem hk)⟩
  rw [Nat.zero_add, cell_of_row _ _ _ _ _ _ h, ← Array.getElem?_toList, hc]
  simp [hk]

/-- The chapter's text, cut in three: its sum. -/
theorem of_parts (w1 : World) (C : Array Value) (hC : upTo 256 C) :
    Calls Try.prog 9 #[.pointer (some ⟨w1.heap.size, 0, none⟩), .slice (some ⟨w1.heap.size + 1, 0, none⟩) 3 3]
      ((w1.alloc (.cells C 24)).alloc (.cells #[.string { data := #[49, 50, 51, 52] }, .string { data := #[] }, .string { data := #[53, 54, 55, 56, 57] }] 9))
      fun e w' => e = .returned (.int .u32 3808858755) ∧ ∃ q, w' = ((w1.alloc (.cells C 24)).alloc (.cells #[.string { data := #[49, 50, 51, 52] }, .string { data := #[] }, .string { data := #[53, 54, 55, 56, 57] }] 9)).drewN q := by
  refine (of_at w1.heap.size ent _ 3 3 [{ data := #[49, 50, 51, 52] }, { data := #[] }, { data := #[53, 54, 55, 56, 57] }] _ (tabAt_block hC (heap_alloc2_old w1 _ _))
    (strs_block (heap_alloc2_new w1 _ _) rfl (by decide)) rfl (by omega)).mono ?_
  rintro e w2 ⟨rfl, h⟩
  exact ⟨ret_int (congrArg Nat.cast (show sumT ent (joined [{ data := #[49, 50, 51, 52] }, { data := #[] }, { data := #[53, 54, 55, 56, 57] }]) = 3808858755 by kernel_rfl)), h⟩

theorem ent_one : ent 1 = 4067132163 := by kernel_rfl
theorem upTo_at {C : Array Value} (hC : upTo 256 C) (i n : Nat) (hi : i < 256) (hn : ent i = n) : C[i]? = some (.int .u32 ((n : Nat) : Int)) := hn ▸ hC.2.1 i hi

set_option maxRecDepth 100000 in
set_option maxHeartbeats 1000000 in
theorem awake_any (w : World) :
    Calls Try.prog 10 #[] w fun e w' => e = .returned (.bool true) ∧ Below w.heap.size w w' := by
  have hz := zero24.1
  obtain ⟨cs, hcs⟩ : ∃ cs : Array Value, Array.replicate 256 (Value.int .u32 0) = cs := ⟨_, rfl⟩
  rw [hcs] at hz
  have hcs0 : cs.size = 256 := by rw [← hcs]; simp
  have HI := Lib.hid zero24.2
  have HC0 := Lib.hid hcs0
  clear hcs hcs0
  go_enter Try.func10, Try.ntmps10
  go_wp2_with (first
    | (go_at_call 8; refine (make_any _).mono ?_; rintro e w1 ⟨⟨C, hC, rfl⟩, hb⟩; have hc1 : C[1]? = some (.int .u32 4067132163) := upTo_at hC 1 _ (by omega) ent_one)
    | (refine wpList_store_row rfl 24 (.tmp 1) (.tmp 2) rfl w1.heap.size C rfl rfl 24 cs (heap_alloc_last w1 _) (by rw [hC.1]; exact HI.out) (by rw [hC.1, HC0.out]) (upTo_all hC) ?_; rw [World.setRow_alloc_new])
    | (go_at_call 9; refine (of_parts w1 C hC).mono ?_; rintro e w2 ⟨rfl, q, rfl⟩))
  go_ret
  exact ⟨rfl, blw_draws ((hb.alloc hb.size _).alloc (by have := hb.size; simp; omega) _) q⟩

end Go.Proofs.Ytbkbnjagdeomjaa
