/- words.while, with the two functions that are handed to it. -/
import Derived.Test.YtbdecnagdnancaaGreatDoorWp
import Derived.Laws.RangeAny
import Derived.Laws.BitsLemmas
import Derived.Lib.VarintMem

namespace Go.Proofs.YtbdecnagdnancaaGreatDoor
open Go.RowKit Go.Proofs.YtbdecnagdnancaaGreatDoorW.PrintWords Go.Proofs.YtbdecnagdnancaaGreatDoorW.PrintLast Go.Proofs.YtbdecnagdnancaaGreatDoorW.PrintMore
set_option linter.unusedVariables false
set_option linter.unusedSimpArgs false
namespace Wd
def p1 (r : Nat) : Bool := r == 95 || (decide (r < 128) && ([2, 3] : List Int).contains (sortOf r))
def p2 (r : Nat) : Bool := decide (r < 128) && ([3] : List Int).contains (sortOf r)
theorem two_C (w : World) (x y : Int) (t : TypeId) : (Kd.int .u8).C (w.alloc (.cells #[.int .u8 x, .int .u8 y] t)) (some ⟨w.heap.size, 0, none⟩) 2 [x, y] := C_lit (Value.int .u8) (fun _ => rfl) w [x, y] t (by simp)
set_option maxRecDepth 100000 in
set_option maxHeartbeats 4000000 in
theorem word1_calls (w : World) (r : Nat) (HR : Aside0 (RangesAt w)) : Calls Tryz.prog 133 #[.int .i32 (r : Int)] w fun e w' => e = .returned (.bool (p1 r)) ∧ Below w.heap.size w w' := by
  have HB := Aside0.mk (Below.refl w.heap.size w)
  by_cases h : r = 95
  · subst h
    go_enter Tryz.func133, Tryz.ntmps133
    go_wp2
    go_ret
    exact ⟨rfl, HB.out⟩
  · have d1 : ((r : Int) == 95) = false := beq_eq_false_iff_ne.2 (by omega)
    have HB2 := Aside0.mk (below_alloc HB.out (.cells #[.int .u8 2, .int .u8 3] 161))
    have HP : Aside0 (p1 r = (decide (r < 128) && ([2, 3] : List Int).contains (sortOf r))) := ⟨by rw [p1, beq_eq_false_iff_ne.2 h, Bool.false_or]⟩
    have HC := Aside0.mk (two_C w 2 3 161)
    clear h
    go_enter Tryz.func133, Tryz.ntmps133
    go_wp2_with (go_at_call 134; (with_reducible refine (within_calls _ r 2 2 _ [2, 3] rfl HC.out ⟨HR.out.below HB2.out⟩).mono ?_); rintro e W' ⟨rfl, hb'⟩; rw [← HP.out]; have HB3 := Aside0.mk (below_step HB2.out hb'); clear hb')
    go_ret
    exact ⟨rfl, HB3.out⟩
set_option maxRecDepth 100000 in
set_option maxHeartbeats 4000000 in
theorem word2_calls (w : World) (r : Nat) (HR : Aside0 (RangesAt w)) : Calls Tryz.prog 135 #[.int .i32 (r : Int)] w fun e w' => e = .returned (.bool (p2 r)) ∧ Below w.heap.size w w' := by
  have HB2 := Aside0.mk (below_alloc (Below.refl w.heap.size w) (.cells #[.int .u8 3] 161))
  have HP : Aside0 (p2 r = (decide (r < 128) && ([3] : List Int).contains (sortOf r))) := ⟨rfl⟩
  have HC := Aside0.mk (C_one_new .u8 w 3 161)
  go_enter Tryz.func135, Tryz.ntmps135
  go_wp2_with (go_at_call 134; (with_reducible refine (within_calls _ r 1 1 _ [3] rfl HC.out ⟨HR.out.below HB2.out⟩).mono ?_); rintro e W' ⟨rfl, hb'⟩; rw [← HP.out]; have HB3 := Aside0.mk (below_step HB2.out hb'); clear hb')
  go_ret
  exact ⟨rfl, HB3.out⟩
theorem p1_byte (c : B) (h : c.toNat < 128) : p1 c.toNat = inName c := by
  have hs := sort_cases c
  rw [p1, decide_eq_true h, Bool.true_and]
  have e : (c.toNat == 95) = (c == 95) := by
    rw [Bool.eq_iff_iff, beq_iff_eq, beq_iff_eq]
    exact ⟨fun e => UInt8.toNat_inj.1 e, fun e => by rw [e]; rfl⟩
  rw [e, inName, Bool.eq_iff_iff]
  simp only [Bool.or_eq_true, beq_iff_eq, List.contains_iff_mem, List.mem_cons, List.not_mem_nil, or_false, hs.1, hs.2.1]
  exact ⟨fun h => h.elim .inr .inl, fun h => h.elim .inr .inl⟩
theorem p2_byte (c : B) (h : c.toNat < 128) : p2 c.toNat = digit c := by
  have hs := sort_cases c
  rw [p2, decide_eq_true h, Bool.true_and, Bool.eq_iff_iff]
  simp only [List.contains_iff_mem, List.mem_cons, List.not_mem_nil, or_false, hs.2.1]
theorem high_letter (c : B) (h : 128 ≤ c.toNat) : letter c = false ∧ digit c = false := by
  simp only [letter, digit, decide_eq_false_iff_not]
  omega
theorem p1_high (r : Nat) (h : 128 ≤ r) : p1 r = false := by
  rw [p1, decide_eq_false (by omega), Bool.false_and, Bool.or_false, beq_eq_false_iff_ne]
  omega
theorem p2_high (r : Nat) (h : 128 ≤ r) : p2 r = false := by rw [p2, decide_eq_false (by omega), Bool.false_and]
theorem inName_high (c : B) (h : 128 ≤ c.toNat) : inName c = false := by
  have := high_letter c h
  rw [inName, this.1, this.2, Bool.false_or, Bool.false_or, beq_eq_false_iff_ne]
  rintro rfl
  exact absurd h (by decide)
set_option maxRecDepth 100000 in
set_option maxHeartbeats 4000000 in
theorem while1_calls (w : World) (s : ByteArray) (HR : Aside0 (RangesAt w)) (hs : s.size < 4611686018427387904) :
    Calls Tryz.prog 132 #[.string s, .func (.func 133) #[] #[]] w fun e w' => e = .returned (.int .i64 ((s.data.toList.takeWhile inName).length : Int)) ∧ Below w.heap.size w w' := by
  obtain ⟨p, hp⟩ : ∃ p, p = p1 := ⟨_, rfl⟩
  obtain ⟨q, hq⟩ : ∃ q, q = inName := ⟨_, rfl⟩
  rw [← hq]
  have HF : Aside0 (∀ W, Below w.heap.size w W → ∀ r : Nat, Calls Tryz.prog 133 #[.int .i32 (r : Int)] W fun e w' => e = .returned (.bool (p r)) ∧ Below W.heap.size W w') := ⟨fun W hb r => by rw [hp]; exact word1_calls W r ⟨HR.out.below hb⟩⟩
  have HQ : Aside0 ((∀ b : B, b.toNat < 128 → p b.toNat = q b) ∧ (∀ b : B, 128 ≤ b.toNat → q b = false) ∧ ∀ r, 128 ≤ r → p r = false) := ⟨by rw [hp, hq]; exact ⟨p1_byte, inName_high, p1_high⟩⟩
  obtain ⟨t, ht⟩ : ∃ t, t = (s.data.toList.takeWhile q).length := ⟨_, rfl⟩
  rw [← ht]
  have HT := Aside0.mk ht
  have HL : Aside0 (s.data.toList.length = s.size) := ⟨Array.length_toList⟩
  clear hq hp ht
  have HI : Aside0 ((w.alloc (.stringIter s 0)).heap[w.heap.size]? = some (.stringIter s 0)) := ⟨blk_new w _⟩
  have HB := Aside0.mk (below_alloc (Below.refl w.heap.size w) (.stringIter s 0))
  go_enter Tryz.func132, Tryz.ntmps132
  go_wp2
  go_loopg [5] (s.size + 1) (fun g b W => ∃ (k : Nat), k ≤ s.size ∧ s.size + 1 - k ≤ g ∧ Aside0 (W.heap[w.heap.size]? = some (.stringIter s k)) ∧ Aside0 (Below w.heap.size w W) ∧ Aside0 (∀ i (h : i < s.data.toList.length), i < k → q s.data.toList[i] = true))
  case atStart => exact ⟨0, by omega, by omega, HI, HB, ⟨fun i h hi => by omega⟩⟩
  case round =>
    clear HI HB
    obtain ⟨k, hk, hkg, HI, HB, HK⟩ := hrel
    have hsz : w.heap.size < wr.heap.size := (Array.getElem?_eq_some_iff.1 HI.out).1
    rcases Nat.lt_or_ge k s.size with hlt | hge
    · have hnx : ∀ ty, (Instr.next (.pointer (some ⟨w.heap.size, 0, none⟩)) true ty).run Tryz.prog wr = _ := fun ty => Lib.run_next_any_at wr w.heap.size s k ty HI.out hlt
      obtain ⟨r, hr⟩ : ∃ r, r = (Utf8.decode s k).1 := ⟨_, rfl⟩
      obtain ⟨d, hd⟩ : ∃ d, d = (Utf8.decode s k).2 := ⟨_, rfl⟩
      rw [← hr, ← hd] at hnx
      have HI2 := Aside0.mk (Lib.iterAt_heap wr w.heap.size s k (k + d) HI.out)
      have HB2 := Aside0.mk (Lib.below_iterAt HB.out (k := w.heap.size) (Nat.le_refl _) s (k + d))
      have hkl : k < s.data.toList.length := by rw [HL.out]; exact hlt
      have hbyte : Aside0 ((s[k]'hlt) = s.data.toList[k]) := ⟨by rw [Array.getElem_toList]; rfl⟩
      have HD : Aside0 (((s[k]'hlt).toNat < 128 ∧ r = (s[k]'hlt).toNat ∧ d = 1) ∨ (128 ≤ (s[k]'hlt).toNat ∧ 128 ≤ r)) := ⟨by
        rcases Nat.lt_or_ge (s[k]'hlt).toNat 128 with h | h
        · have := decode_ascii s k hlt h
          rw [this] at hr hd
          exact .inl ⟨h, hr, hd⟩
        · have := decode_high s k hlt h
          rw [← hr] at this
          exact .inr ⟨h, this.1⟩⟩
      have HP : Aside0 (p r = q s.data.toList[k]) := ⟨by
        rw [← hbyte.out]
        rcases HD.out with ⟨h1, h2, h3⟩ | ⟨h1, h2⟩
        · rw [h2]; exact HQ.out.1 _ h1
        · rw [HQ.out.2.1 _ h1]; exact HQ.out.2.2 r h2⟩
      have HF2 : Aside0 (∀ W, W = wr.iterAt w.heap.size s (k + d) → Calls Tryz.prog 133 #[.int .i32 (r : Int)] W fun e w' => e = .returned (.bool (p r)) ∧ Below W.heap.size W w') := ⟨fun W e => HF.out W (by rw [e]; exact HB2.out) r⟩
      have hs2 : w.heap.size < (wr.iterAt w.heap.size s (k + d)).heap.size := by rw [Lib.iterAt_size]; exact hsz
      have HS2 := Aside0.mk hs2
      clear hs2 hr hd
      cases hz : p r with
      | true =>
        have HD1 : Aside0 (d = 1) := ⟨by
          rcases HD.out with ⟨h1, h2, h3⟩ | ⟨h1, h2⟩
          · exact h3
          · have := HQ.out.2.2 r h2; rw [hz] at this; cases this⟩
        have HK2 : Aside0 (∀ i (h : i < s.data.toList.length), i < k + 1 → q s.data.toList[i] = true) := ⟨by
          intro i h hi
          rcases Nat.lt_or_ge i k with q | q
          · exact HK.out i h q
          · obtain rfl : i = k := by omega
            rw [← HP.out]; exact hz⟩
        have HZ := Aside0.mk hz
        clear hz
        go_wp2_with (go_at_call 133; (with_reducible refine (HF2.out _ rfl).mono ?_); rintro e W' ⟨rfl, hb'⟩; rw [HZ.out]; have HI3 := Aside0.mk ((hb'.block _ HS2.out).trans HI2.out); have HB3 := Aside0.mk (below_step HB2.out hb'); clear hb')
        go_roundg (gk - 1)
        case measure => omega
        case rel => exact ⟨k + 1, by omega, by omega, by rw [← HD1.out]; exact HI3, HB3, HK2⟩
      | false =>
        have HE : Aside0 (t = k) := ⟨by rw [HT.out]; exact tw_len q _ k (by rw [HL.out]; omega) HK.out (fun h => by rw [← HP.out]; exact hz)⟩
        have HZ := Aside0.mk hz
        clear hz
        go_wp2_with (go_at_call 133; (with_reducible refine (HF2.out _ rfl).mono ?_); rintro e W' ⟨rfl, hb'⟩; rw [HZ.out]; have HB3 := Aside0.mk (below_step HB2.out hb'); clear hb')
        go_ret
        rw [HE.out]
        exact ⟨rfl, HB3.out⟩
    · have hnx : ∀ ty, (Instr.next (.pointer (some ⟨w.heap.size, 0, none⟩)) true ty).run Tryz.prog wr = _ := fun ty => Lib.run_next_end_at wr w.heap.size s k ty HI.out (by omega)
      have HE : Aside0 (t = s.size) := ⟨by
        obtain rfl : k = s.size := by omega
        rw [HT.out]
        exact tw_len q _ _ (by rw [HL.out]; omega) HK.out (fun h => absurd h (by rw [HL.out]; omega))⟩
      go_wp2
      go_ret
      rw [HE.out]
      exact ⟨rfl, HB.out⟩
set_option maxRecDepth 100000 in
set_option maxHeartbeats 4000000 in
theorem while2_calls (w : World) (s : ByteArray) (HR : Aside0 (RangesAt w)) (hs : s.size < 4611686018427387904) :
    Calls Tryz.prog 132 #[.string s, .func (.func 135) #[] #[]] w fun e w' => e = .returned (.int .i64 ((s.data.toList.takeWhile digit).length : Int)) ∧ Below w.heap.size w w' := by
  obtain ⟨p, hp⟩ : ∃ p, p = p2 := ⟨_, rfl⟩
  obtain ⟨q, hq⟩ : ∃ q, q = digit := ⟨_, rfl⟩
  rw [← hq]
  have HF : Aside0 (∀ W, Below w.heap.size w W → ∀ r : Nat, Calls Tryz.prog 135 #[.int .i32 (r : Int)] W fun e w' => e = .returned (.bool (p r)) ∧ Below W.heap.size W w') := ⟨fun W hb r => by rw [hp]; exact word2_calls W r ⟨HR.out.below hb⟩⟩
  have HQ : Aside0 ((∀ b : B, b.toNat < 128 → p b.toNat = q b) ∧ (∀ b : B, 128 ≤ b.toNat → q b = false) ∧ ∀ r, 128 ≤ r → p r = false) := ⟨by rw [hp, hq]; exact ⟨p2_byte, fun c h => (high_letter c h).2, p2_high⟩⟩
  obtain ⟨t, ht⟩ : ∃ t, t = (s.data.toList.takeWhile q).length := ⟨_, rfl⟩
  rw [← ht]
  have HT := Aside0.mk ht
  have HL : Aside0 (s.data.toList.length = s.size) := ⟨Array.length_toList⟩
  clear hq hp ht
  have HI : Aside0 ((w.alloc (.stringIter s 0)).heap[w.heap.size]? = some (.stringIter s 0)) := ⟨blk_new w _⟩
  have HB := Aside0.mk (below_alloc (Below.refl w.heap.size w) (.stringIter s 0))
  go_enter Tryz.func132, Tryz.ntmps132
  go_wp2
  go_loopg [5] (s.size + 1) (fun g b W => ∃ (k : Nat), k ≤ s.size ∧ s.size + 1 - k ≤ g ∧ Aside0 (W.heap[w.heap.size]? = some (.stringIter s k)) ∧ Aside0 (Below w.heap.size w W) ∧ Aside0 (∀ i (h : i < s.data.toList.length), i < k → q s.data.toList[i] = true))
  case atStart => exact ⟨0, by omega, by omega, HI, HB, ⟨fun i h hi => by omega⟩⟩
  case round =>
    clear HI HB
    obtain ⟨k, hk, hkg, HI, HB, HK⟩ := hrel
    have hsz : w.heap.size < wr.heap.size := (Array.getElem?_eq_some_iff.1 HI.out).1
    rcases Nat.lt_or_ge k s.size with hlt | hge
    · have hnx : ∀ ty, (Instr.next (.pointer (some ⟨w.heap.size, 0, none⟩)) true ty).run Tryz.prog wr = _ := fun ty => Lib.run_next_any_at wr w.heap.size s k ty HI.out hlt
      obtain ⟨r, hr⟩ : ∃ r, r = (Utf8.decode s k).1 := ⟨_, rfl⟩
      obtain ⟨d, hd⟩ : ∃ d, d = (Utf8.decode s k).2 := ⟨_, rfl⟩
      rw [← hr, ← hd] at hnx
      have HI2 := Aside0.mk (Lib.iterAt_heap wr w.heap.size s k (k + d) HI.out)
      have HB2 := Aside0.mk (Lib.below_iterAt HB.out (k := w.heap.size) (Nat.le_refl _) s (k + d))
      have hkl : k < s.data.toList.length := by rw [HL.out]; exact hlt
      have hbyte : Aside0 ((s[k]'hlt) = s.data.toList[k]) := ⟨by rw [Array.getElem_toList]; rfl⟩
      have HD : Aside0 (((s[k]'hlt).toNat < 128 ∧ r = (s[k]'hlt).toNat ∧ d = 1) ∨ (128 ≤ (s[k]'hlt).toNat ∧ 128 ≤ r)) := ⟨by
        rcases Nat.lt_or_ge (s[k]'hlt).toNat 128 with h | h
        · have := decode_ascii s k hlt h
          rw [this] at hr hd
          exact .inl ⟨h, hr, hd⟩
        · have := decode_high s k hlt h
          rw [← hr] at this
          exact .inr ⟨h, this.1⟩⟩
      have HP : Aside0 (p r = q s.data.toList[k]) := ⟨by
        rw [← hbyte.out]
        rcases HD.out with ⟨h1, h2, h3⟩ | ⟨h1, h2⟩
        · rw [h2]; exact HQ.out.1 _ h1
        · rw [HQ.out.2.1 _ h1]; exact HQ.out.2.2 r h2⟩
      have HF2 : Aside0 (∀ W, W = wr.iterAt w.heap.size s (k + d) → Calls Tryz.prog 135 #[.int .i32 (r : Int)] W fun e w' => e = .returned (.bool (p r)) ∧ Below W.heap.size W w') := ⟨fun W e => HF.out W (by rw [e]; exact HB2.out) r⟩
      have hs2 : w.heap.size < (wr.iterAt w.heap.size s (k + d)).heap.size := by rw [Lib.iterAt_size]; exact hsz
      have HS2 := Aside0.mk hs2
      clear hs2 hr hd
      cases hz : p r with
      | true =>
        have HD1 : Aside0 (d = 1) := ⟨by
          rcases HD.out with ⟨h1, h2, h3⟩ | ⟨h1, h2⟩
          · exact h3
          · have := HQ.out.2.2 r h2; rw [hz] at this; cases this⟩
        have HK2 : Aside0 (∀ i (h : i < s.data.toList.length), i < k + 1 → q s.data.toList[i] = true) := ⟨by
          intro i h hi
          rcases Nat.lt_or_ge i k with q | q
          · exact HK.out i h q
          · obtain rfl : i = k := by omega
            rw [← HP.out]; exact hz⟩
        have HZ := Aside0.mk hz
        clear hz
        go_wp2_with (go_at_call 135; (with_reducible refine (HF2.out _ rfl).mono ?_); rintro e W' ⟨rfl, hb'⟩; rw [HZ.out]; have HI3 := Aside0.mk ((hb'.block _ HS2.out).trans HI2.out); have HB3 := Aside0.mk (below_step HB2.out hb'); clear hb')
        go_roundg (gk - 1)
        case measure => omega
        case rel => exact ⟨k + 1, by omega, by omega, by rw [← HD1.out]; exact HI3, HB3, HK2⟩
      | false =>
        have HE : Aside0 (t = k) := ⟨by rw [HT.out]; exact tw_len q _ k (by rw [HL.out]; omega) HK.out (fun h => by rw [← HP.out]; exact hz)⟩
        have HZ := Aside0.mk hz
        clear hz
        go_wp2_with (go_at_call 135; (with_reducible refine (HF2.out _ rfl).mono ?_); rintro e W' ⟨rfl, hb'⟩; rw [HZ.out]; have HB3 := Aside0.mk (below_step HB2.out hb'); clear hb')
        go_ret
        rw [HE.out]
        exact ⟨rfl, HB3.out⟩
    · have hnx : ∀ ty, (Instr.next (.pointer (some ⟨w.heap.size, 0, none⟩)) true ty).run Tryz.prog wr = _ := fun ty => Lib.run_next_end_at wr w.heap.size s k ty HI.out (by omega)
      have HE : Aside0 (t = s.size) := ⟨by
        obtain rfl : k = s.size := by omega
        rw [HT.out]
        exact tw_len q _ _ (by rw [HL.out]; omega) HK.out (fun h => absurd h (by rw [HL.out]; omega))⟩
      go_wp2
      go_ret
      rw [HE.out]
      exact ⟨rfl, HB.out⟩
end Wd
end Go.Proofs.YtbdecnagdnancaaGreatDoor
