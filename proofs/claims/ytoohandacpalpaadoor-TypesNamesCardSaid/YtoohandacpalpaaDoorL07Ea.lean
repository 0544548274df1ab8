/- The law TypesNames: a walk for the empty name. -/
import Derived.Test.YtoohandacpalpaaDoorL07E
namespace Go.Proofs.YtoohandacpalpaaDoor
open Go.RowKit Go.Shelf Go.Proofs.YtoohandacpalpaaDoorW.PrintWords Go.Proofs.YtoohandacpalpaaDoorW.PrintLast Go.Proofs.YtoohandacpalpaaDoorW.PrintMore
set_option linter.unusedVariables false
set_option linter.unusedSimpArgs false
namespace L07
set_option maxRecDepth 100000 in
set_option maxHeartbeats 20000000 in
theorem names_zero (w : World) (s : ByteArray) (mod : Int) (h : s.size ≤ 1000) (hcl : s.size = 0) :
    Calls Tryd.prog 8 #[.string s, .int .i64 mod] w fun e w' => e = .returned (.bool true) ∧ Below w.heap.size w w' := by
  have y7 : decide (1 ≤ (s.size : Int)) = false := decide_eq_false (by omega)
  have z1 : decide (1000 < (s.size : Int)) = false := decide_eq_false (by omega)
  obtain ⟨m0, hm0⟩ : ∃ m0, m0 = (decide (1 ≤ s.data.toList.length) && decide (s.data.toList.length ≤ 32) && isLetter (s.data.toList.headD 0)) := ⟨_, rfl⟩
  have HM := Aside0.mk hm0
  have hz : s.size = 0 → m0 = false := fun e => by rw [hm0]; simp; omega
  have hlong : 32 < s.size → m0 = false := fun e => by rw [hm0]; simp; omega
  have hin : ∀ h0 : 0 < s.size, s.size ≤ 32 → m0 = letC s[0].toNat := fun h0 h1 => by
    rw [hm0, letU_letter]
    have hl : 0 < s.data.toList.length := by simpa using h0
    rw [show s.data.toList.headD 0 = s[0] by
      rw [List.headD_eq_head?_getD, List.head?_eq_getElem?, List.getElem?_eq_getElem hl]; simp; rfl]
    simp
    omega
  clear hm0
  go_enter Tryd.func8, Tryd.ntmps8
  go_wp2_with (go_at_call 26; (with_reducible refine (letter_calls _ _).mono ?_); rintro e W' ⟨rfl, rfl⟩)
  all_goals
    go_loop [5, 6] (fun x y => ∃ (b : Bool) (i : Nat), x = .bool b ∧ y = .int .i64 i ∧ 1 ≤ i ∧ Aside0 (b = pre m0 s i)) (fun x y => match y with | .int _ i => s.size - i.toNat | _ => 0)
    case atStart => exact ⟨_, 1, rfl, rfl, by omega, ⟨by rw [pre_one]; first | exact (hz (by omega)).symm | exact (hlong (by omega)).symm | exact (hin (by omega) (by omega)).symm⟩⟩
    case round =>
      obtain ⟨b, i, rfl, rfl, h1, HA⟩ := hrel
      rcases Nat.lt_or_ge i s.size with hi | hi
      · have hd : decide (i < s.size) = true := decide_eq_true hi
        have i9 : i ≤ 1000 := by omega
        have hp := pre_step m0 s i h1 hi
        rw [← HA.out] at hp
        have HP := Aside0.mk hp
        clear hp HA hz hlong hin
        go_wp2_with (go_at_call 26; (with_reducible refine (letter_calls _ _).mono ?_); rintro e W' ⟨rfl, rfl⟩)
        all_goals
          refine ⟨⟨_, i + 1, rfl, by go_num, by omega, ⟨?_⟩⟩, ?_⟩
          · rw [HP.out]
            clear HP HM
            simp_all [othC]
            try (intros; omega)
          · show s.size - ((i : Int) + 1).toNat < s.size - ((i : Int)).toNat
            omega
      · have hd : decide (i < s.size) = false := decide_eq_false (by omega)
        have hbn : b = namedB s := HA.out.trans (pre_end s m0 i hi HM.out)
        have hqa := check_named s mod
        have hqb := check_base s mod
        rw [← hbn] at hqa
        clear hz hlong hin HA HM hbn
        have HB := Aside0.mk (Below.refl w.heap.size w)
        obtain ⟨y1, e1⟩ : ∃ y, decide (0 ≤ mod) = y := ⟨_, rfl⟩
        obtain ⟨y2, e2⟩ : ∃ y, decide (mod ≤ 16) = y := ⟨_, rfl⟩
        obtain ⟨y3, e3⟩ : ∃ y, (mod == 0) = y := ⟨_, rfl⟩
        obtain ⟨bs, e4⟩ : ∃ y, (s.toList == [98, 111, 111, 108] || s.toList == [105, 110, 116] || s.toList == [116, 101, 120, 116] || s.toList == [117, 110, 105, 116]) = y := ⟨_, rfl⟩
        have hbs : baseB s = bs := by rw [← e4, Lib.toList_data]; rfl
        rw [e1, e2] at hqa
        rw [hbs, show decide (mod = 0) = y3 by rw [← e3]; rfl] at hqb
        have HBS := Aside0.mk e4
        clear hbs e4
        have hsp : b = false ∨ (b = true ∧ y1 = false) ∨ (b = true ∧ y1 = true ∧ y2 = false) ∨ (b = true ∧ y1 = true ∧ y2 = true) := by cases b <;> cases y1 <;> cases y2 <;> simp
        have hsq : bs = false ∨ (bs = true ∧ y3 = false) ∨ (bs = true ∧ y3 = true) := by cases bs <;> cases y3 <;> simp
        rcases hsp with rfl | ⟨rfl, rfl⟩ | ⟨rfl, rfl, rfl⟩ | ⟨rfl, rfl, rfl⟩
        all_goals
          rcases hsq with rfl | ⟨rfl, rfl⟩ | ⟨rfl, rfl⟩
          all_goals
            simp only [Bool.and_false, Bool.false_and, Bool.and_true, Bool.true_and, reduceIte, Bool.false_eq_true] at hqa hqb
            have CA : Aside0 (∀ W, Calls Tryd.prog 14 #[.slice (some ⟨W.heap.size, 0, none⟩) 1 1] (W.alloc (.cells #[.int .u8 2, .int .i64 mod, .string s, .int .i64 0, .bool false, .int .u64 0, .bool false, .int .u64 0, .bool false, .int .u64 0] 36)) fun e w' => e = .returned (.int .i64 _) ∧ Below W.heap.size W w') := ⟨fun W => by
              refine (check_calls _ _ 1 [namedN s mod] (lit_C W (namedN s mod))).mono ?_
              rw [hqa]
              rintro e w' ⟨rfl, hb⟩
              exact ⟨rfl, below_step (below_alloc (Below.refl _ _) _) hb⟩⟩
            have CB : Aside0 (∀ W, Calls Tryd.prog 14 #[.slice (some ⟨W.heap.size, 0, none⟩) 1 1] (W.alloc (.cells #[.int .u8 1, .int .i64 mod, .string s, .int .i64 0, .bool false, .int .u64 0, .bool false, .int .u64 0, .bool false, .int .u64 0] 36)) fun e w' => e = .returned (.int .i64 _) ∧ Below W.heap.size W w') := ⟨fun W => by
              refine (check_calls _ _ 1 [baseN s mod] (lit_C W (baseN s mod))).mono ?_
              rw [hqb]
              rintro e w' ⟨rfl, hb⟩
              exact ⟨rfl, below_step (below_alloc (Below.refl _ _) _) hb⟩⟩
            clear hqa hqb
            go_wp2_with (first
              | (go_at_call 14; (with_reducible refine (CA.out _).mono ?_); rintro e W' ⟨rfl, hb'⟩; have HB' := Aside0.mk (below_step HB.out hb'); clear HB hb'; have HB := HB'; clear HB')
              | (go_at_call 14; (with_reducible refine (CB.out _).mono ?_); rintro e W' ⟨rfl, hb'⟩; have HB' := Aside0.mk (below_step HB.out hb'); clear HB hb'; have HB := HB'; clear HB')
              | (go_at_call 23; (try rw [HBS.out]); (with_reducible refine (alive_calls _).mono ?_); rintro e W' ⟨rfl, hb'⟩; have HB' := Aside0.mk (below_step HB.out hb'); clear HB hb'; have HB := HB'; clear HB'))
            all_goals
              first
                | (go_ret; exact ⟨rfl, HB.out⟩)
                | (exfalso; have hbs := HBS.out; clear HBS CA CB HB; simp_all; done)
end L07
end Go.Proofs.YtoohandacpalpaaDoor
