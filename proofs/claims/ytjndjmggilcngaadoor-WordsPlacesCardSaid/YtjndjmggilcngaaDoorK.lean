import Derived.Test.YtjndjmggilcngaaDoorProg
import Derived.Test.YtjndjmggilcngaaDoorWWords
import Derived.Test.YtjndjmggilcngaaDoorWLast
import Derived.Test.YtjndjmggilcngaaDoorWTab
import Derived.Test.YtjndjmggilcngaaDoorWFour
import Derived.Test.YtjndjmggilcngaaDoorWQPut
import Derived.Test.YtjndjmggilcngaaDoorWApart
import Derived.Test.YtjndjmggilcngaaDoorWArr
import Derived.Test.YtjndjmggilcngaaDoorWZeros
import Derived.Test.YtjndjmggilcngaaDoorWFoot
import Derived.Test.YtjndjmggilcngaaDoorWKept
import Derived.Test.YtjndjmggilcngaaDoorWShare
import Derived.Test.YtjndjmggilcngaaDoorWN
import Derived.Test.YtjndjmggilcngaaDoorWFootNe
import Derived.Test.YtjndjmggilcngaaDoorWAt
import Derived.Test.YtjndjmggilcngaaDoorWEqStruct
import Derived.Test.YtjndjmggilcngaaDoorWRepsOne
import Derived.Test.YtjndjmggilcngaaDoorWInv
import Derived.Test.YtjndjmggilcngaaDoorWInvWords
import Derived.Test.YtjndjmggilcngaaDoorWGuard
import Derived.Test.YtjndjmggilcngaaDoorWNEv
import Derived.Test.YtjndjmggilcngaaDoorWMore
namespace Go.Proofs.YtjndjmggilcngaaDoor
open Go.RowKit Go.Proofs.YtjndjmggilcngaaDoorW.PrintWords Go.Proofs.YtjndjmggilcngaaDoorW.PrintLast Go.Proofs.YtjndjmggilcngaaDoorW.PrintMore
set_option linter.unusedVariables false
/-! #### struct type 75 -/
structure S75 where
  f0 : Bool
  f1 : Int
def z75 : S75 := ⟨false, (0 : Int)⟩
def k75 : Kd S75 := Kd.iso (Kd.pair Kd.bool (Kd.int .u64)) (fun x : S75 => (x.f0, x.f1))
theorem k75_heap : Kd.Heap k75 := Kd.heap_iso _ (Kd.heap_pair Kd.heap_bool (Kd.heap_int .u64))
theorem k75_open {w : World} {x : S75} {cs : List Value} (h : k75.K w x cs) : cs = [.bool x.f0, .int .u64 x.f1] := by
  obtain ⟨_, _, rfl, rfl, rfl⟩ := h
  exact rfl
theorem k75_openM {w : World} {base : Nat} {ok : Nat → Prop} {x : S75} {cs : List Value} (h : k75.M w base ok x cs) : cs = [.bool x.f0, .int .u64 x.f1] := by
  obtain ⟨_, _, rfl, rfl, rfl⟩ := h
  exact rfl
theorem k75_mk (w : World) (x : S75)  : k75.K w x [.bool x.f0, .int .u64 x.f1] := ⟨[.bool x.f0], [.int .u64 x.f1], rfl, rfl, rfl⟩
theorem k75_mkM (w : World) (base : Nat) (ok : Nat → Prop) (x : S75)  : k75.M w base ok x [.bool x.f0, .int .u64 x.f1] := ⟨[.bool x.f0], [.int .u64 x.f1], rfl, rfl, rfl⟩
theorem k75_mkF (W : World) (ok : Nat → Prop) (x : S75) : Kd.FK k75 W ok x [.bool x.f0, .int .u64 x.f1] := fun W2 _ => k75_mk W2 x
def rd_T75 (xs : List S75) (i : Int) : S75 := xs.getD i.toNat z75
theorem at_T75 {w : World} {A : Option Addr} {n : Nat} {xs : List S75} (h : Kd.C k75 w A n xs) (i : Int) (h0 : 0 ≤ i) (h1 : i < n) : ∃ ad , A = some ad ∧ w.cell? (ad.add (i.toNat * 2)) = some (.bool (rd_T75 xs i).f0) ∧ w.cell? ⟨(ad.add (i.toNat * 2)).block, (ad.add (i.toNat * 2)).off + 1, none⟩ = some (.int .u64 (rd_T75 xs i).f1) := by
  obtain ⟨ad, c, e, _, hK, hc0⟩ := Kd.C_get h z75 i h0 h1
  have hc : ∀ j u, c[j]? = some u → w.cell? (ad.add (i.toNat * 2 + j)) = some u := hc0
  obtain rfl := k75_open hK
  exact ⟨ad, e, hc 0 _ rfl, by rw [← add_field _ _ 1 (by omega)]; exact hc 1 _ rfl⟩

/-! #### struct type 85 -/
structure S85 where
  f0 : Int
  f1 : Int
  f2 : ByteArray
  f3 : Int
  f4 : S75
  f5 : S75
  f6 : S75
def z85 : S85 := ⟨(0 : Int), (0 : Int), (⟨#[]⟩ : ByteArray), (0 : Int), z75, z75, z75⟩
def k85 : Kd S85 := Kd.iso (Kd.pair (Kd.int .u8) (Kd.pair (Kd.int .i64) (Kd.pair Kd.string (Kd.pair (Kd.int .i64) (Kd.pair k75 (Kd.pair k75 k75)))))) (fun x : S85 => (x.f0, x.f1, x.f2, x.f3, x.f4, x.f5, x.f6))
theorem k85_heap : Kd.Heap k85 := Kd.heap_iso _ (Kd.heap_pair (Kd.heap_int .u8) (Kd.heap_pair (Kd.heap_int .i64) (Kd.heap_pair Kd.heap_string (Kd.heap_pair (Kd.heap_int .i64) (Kd.heap_pair k75_heap (Kd.heap_pair k75_heap k75_heap))))))
theorem k85_open {w : World} {x : S85} {cs : List Value} (h : k85.K w x cs) : cs = [.int .u8 x.f0, .int .i64 x.f1, .string x.f2, .int .i64 x.f3, .bool x.f4.f0, .int .u64 x.f4.f1, .bool x.f5.f0, .int .u64 x.f5.f1, .bool x.f6.f0, .int .u64 x.f6.f1] := by
  obtain ⟨_, _, rfl, rfl, ⟨_, _, rfl, rfl, ⟨_, _, rfl, rfl, ⟨_, _, rfl, rfl, ⟨_, _, rfl, s4, ⟨_, _, rfl, s6, s8⟩⟩⟩⟩⟩⟩ := h
  obtain rfl := k75_open s4
  obtain rfl := k75_open s6
  obtain rfl := k75_open s8
  exact rfl
theorem k85_openM {w : World} {base : Nat} {ok : Nat → Prop} {x : S85} {cs : List Value} (h : k85.M w base ok x cs) : cs = [.int .u8 x.f0, .int .i64 x.f1, .string x.f2, .int .i64 x.f3, .bool x.f4.f0, .int .u64 x.f4.f1, .bool x.f5.f0, .int .u64 x.f5.f1, .bool x.f6.f0, .int .u64 x.f6.f1] := by
  obtain ⟨_, _, rfl, rfl, ⟨_, _, rfl, rfl, ⟨_, _, rfl, rfl, ⟨_, _, rfl, rfl, ⟨_, _, rfl, s4, ⟨_, _, rfl, s6, s8⟩⟩⟩⟩⟩⟩ := h
  obtain rfl := k75_openM s4
  obtain rfl := k75_openM s6
  obtain rfl := k75_openM s8
  exact rfl
theorem k85_mk (w : World) (x : S85)  : k85.K w x [.int .u8 x.f0, .int .i64 x.f1, .string x.f2, .int .i64 x.f3, .bool x.f4.f0, .int .u64 x.f4.f1, .bool x.f5.f0, .int .u64 x.f5.f1, .bool x.f6.f0, .int .u64 x.f6.f1] := ⟨[.int .u8 x.f0], [.int .i64 x.f1, .string x.f2, .int .i64 x.f3, .bool x.f4.f0, .int .u64 x.f4.f1, .bool x.f5.f0, .int .u64 x.f5.f1, .bool x.f6.f0, .int .u64 x.f6.f1], rfl, rfl, ⟨[.int .i64 x.f1], [.string x.f2, .int .i64 x.f3, .bool x.f4.f0, .int .u64 x.f4.f1, .bool x.f5.f0, .int .u64 x.f5.f1, .bool x.f6.f0, .int .u64 x.f6.f1], rfl, rfl, ⟨[.string x.f2], [.int .i64 x.f3, .bool x.f4.f0, .int .u64 x.f4.f1, .bool x.f5.f0, .int .u64 x.f5.f1, .bool x.f6.f0, .int .u64 x.f6.f1], rfl, rfl, ⟨[.int .i64 x.f3], [.bool x.f4.f0, .int .u64 x.f4.f1, .bool x.f5.f0, .int .u64 x.f5.f1, .bool x.f6.f0, .int .u64 x.f6.f1], rfl, rfl, ⟨[.bool x.f4.f0, .int .u64 x.f4.f1], [.bool x.f5.f0, .int .u64 x.f5.f1, .bool x.f6.f0, .int .u64 x.f6.f1], rfl, (k75_mk w x.f4 ), ⟨[.bool x.f5.f0, .int .u64 x.f5.f1], [.bool x.f6.f0, .int .u64 x.f6.f1], rfl, (k75_mk w x.f5 ), (k75_mk w x.f6 )⟩⟩⟩⟩⟩⟩
theorem k85_mkM (w : World) (base : Nat) (ok : Nat → Prop) (x : S85)  : k85.M w base ok x [.int .u8 x.f0, .int .i64 x.f1, .string x.f2, .int .i64 x.f3, .bool x.f4.f0, .int .u64 x.f4.f1, .bool x.f5.f0, .int .u64 x.f5.f1, .bool x.f6.f0, .int .u64 x.f6.f1] := ⟨[.int .u8 x.f0], [.int .i64 x.f1, .string x.f2, .int .i64 x.f3, .bool x.f4.f0, .int .u64 x.f4.f1, .bool x.f5.f0, .int .u64 x.f5.f1, .bool x.f6.f0, .int .u64 x.f6.f1], rfl, rfl, ⟨[.int .i64 x.f1], [.string x.f2, .int .i64 x.f3, .bool x.f4.f0, .int .u64 x.f4.f1, .bool x.f5.f0, .int .u64 x.f5.f1, .bool x.f6.f0, .int .u64 x.f6.f1], rfl, rfl, ⟨[.string x.f2], [.int .i64 x.f3, .bool x.f4.f0, .int .u64 x.f4.f1, .bool x.f5.f0, .int .u64 x.f5.f1, .bool x.f6.f0, .int .u64 x.f6.f1], rfl, rfl, ⟨[.int .i64 x.f3], [.bool x.f4.f0, .int .u64 x.f4.f1, .bool x.f5.f0, .int .u64 x.f5.f1, .bool x.f6.f0, .int .u64 x.f6.f1], rfl, rfl, ⟨[.bool x.f4.f0, .int .u64 x.f4.f1], [.bool x.f5.f0, .int .u64 x.f5.f1, .bool x.f6.f0, .int .u64 x.f6.f1], rfl, (k75_mkM w base ok x.f4 ), ⟨[.bool x.f5.f0, .int .u64 x.f5.f1], [.bool x.f6.f0, .int .u64 x.f6.f1], rfl, (k75_mkM w base ok x.f5 ), (k75_mkM w base ok x.f6 )⟩⟩⟩⟩⟩⟩
theorem k85_mkF (W : World) (ok : Nat → Prop) (x : S85) : Kd.FK k85 W ok x [.int .u8 x.f0, .int .i64 x.f1, .string x.f2, .int .i64 x.f3, .bool x.f4.f0, .int .u64 x.f4.f1, .bool x.f5.f0, .int .u64 x.f5.f1, .bool x.f6.f0, .int .u64 x.f6.f1] := fun W2 _ => k85_mk W2 x
def rd_T85 (xs : List S85) (i : Int) : S85 := xs.getD i.toNat z85
theorem at_T85 {w : World} {A : Option Addr} {n : Nat} {xs : List S85} (h : Kd.C k85 w A n xs) (i : Int) (h0 : 0 ≤ i) (h1 : i < n) : ∃ ad , A = some ad ∧ w.cell? (ad.add (i.toNat * 10)) = some (.int .u8 (rd_T85 xs i).f0) ∧ w.cell? ⟨(ad.add (i.toNat * 10)).block, (ad.add (i.toNat * 10)).off + 1, none⟩ = some (.int .i64 (rd_T85 xs i).f1) ∧ w.cell? ⟨(ad.add (i.toNat * 10)).block, (ad.add (i.toNat * 10)).off + 2, none⟩ = some (.string (rd_T85 xs i).f2) ∧ w.cell? ⟨(ad.add (i.toNat * 10)).block, (ad.add (i.toNat * 10)).off + 3, none⟩ = some (.int .i64 (rd_T85 xs i).f3) ∧ w.cell? ⟨(ad.add (i.toNat * 10)).block, (ad.add (i.toNat * 10)).off + 4, none⟩ = some (.bool (rd_T85 xs i).f4.f0) ∧ w.cell? ⟨(ad.add (i.toNat * 10)).block, (ad.add (i.toNat * 10)).off + 5, none⟩ = some (.int .u64 (rd_T85 xs i).f4.f1) ∧ w.cell? ⟨(ad.add (i.toNat * 10)).block, (ad.add (i.toNat * 10)).off + 6, none⟩ = some (.bool (rd_T85 xs i).f5.f0) ∧ w.cell? ⟨(ad.add (i.toNat * 10)).block, (ad.add (i.toNat * 10)).off + 7, none⟩ = some (.int .u64 (rd_T85 xs i).f5.f1) ∧ w.cell? ⟨(ad.add (i.toNat * 10)).block, (ad.add (i.toNat * 10)).off + 8, none⟩ = some (.bool (rd_T85 xs i).f6.f0) ∧ w.cell? ⟨(ad.add (i.toNat * 10)).block, (ad.add (i.toNat * 10)).off + 9, none⟩ = some (.int .u64 (rd_T85 xs i).f6.f1) := by
  obtain ⟨ad, c, e, _, hK, hc0⟩ := Kd.C_get h z85 i h0 h1
  have hc : ∀ j u, c[j]? = some u → w.cell? (ad.add (i.toNat * 10 + j)) = some u := hc0
  obtain rfl := k85_open hK
  exact ⟨ad, e, hc 0 _ rfl, by rw [← add_field _ _ 1 (by omega)]; exact hc 1 _ rfl, by rw [← add_field _ _ 2 (by omega)]; exact hc 2 _ rfl, by rw [← add_field _ _ 3 (by omega)]; exact hc 3 _ rfl, by rw [← add_field _ _ 4 (by omega)]; exact hc 4 _ rfl, by rw [← add_field _ _ 5 (by omega)]; exact hc 5 _ rfl, by rw [← add_field _ _ 6 (by omega)]; exact hc 6 _ rfl, by rw [← add_field _ _ 7 (by omega)]; exact hc 7 _ rfl, by rw [← add_field _ _ 8 (by omega)]; exact hc 8 _ rfl, by rw [← add_field _ _ 9 (by omega)]; exact hc 9 _ rfl⟩

/-! #### struct type 77 -/
structure S77 where
  f0 : Int
  f1 : Int
  f2 : Int
  f3 : S75
def z77 : S77 := ⟨(0 : Int), (0 : Int), (0 : Int), z75⟩
def k77 : Kd S77 := Kd.iso (Kd.pair (Kd.int .i64) (Kd.pair (Kd.int .u8) (Kd.pair (Kd.int .u8) k75))) (fun x : S77 => (x.f0, x.f1, x.f2, x.f3))
theorem k77_heap : Kd.Heap k77 := Kd.heap_iso _ (Kd.heap_pair (Kd.heap_int .i64) (Kd.heap_pair (Kd.heap_int .u8) (Kd.heap_pair (Kd.heap_int .u8) k75_heap)))
theorem k77_open {w : World} {x : S77} {cs : List Value} (h : k77.K w x cs) : cs = [.int .i64 x.f0, .int .u8 x.f1, .int .u8 x.f2, .bool x.f3.f0, .int .u64 x.f3.f1] := by
  obtain ⟨_, _, rfl, rfl, ⟨_, _, rfl, rfl, ⟨_, _, rfl, rfl, s3⟩⟩⟩ := h
  obtain rfl := k75_open s3
  exact rfl
theorem k77_openM {w : World} {base : Nat} {ok : Nat → Prop} {x : S77} {cs : List Value} (h : k77.M w base ok x cs) : cs = [.int .i64 x.f0, .int .u8 x.f1, .int .u8 x.f2, .bool x.f3.f0, .int .u64 x.f3.f1] := by
  obtain ⟨_, _, rfl, rfl, ⟨_, _, rfl, rfl, ⟨_, _, rfl, rfl, s3⟩⟩⟩ := h
  obtain rfl := k75_openM s3
  exact rfl
theorem k77_mk (w : World) (x : S77)  : k77.K w x [.int .i64 x.f0, .int .u8 x.f1, .int .u8 x.f2, .bool x.f3.f0, .int .u64 x.f3.f1] := ⟨[.int .i64 x.f0], [.int .u8 x.f1, .int .u8 x.f2, .bool x.f3.f0, .int .u64 x.f3.f1], rfl, rfl, ⟨[.int .u8 x.f1], [.int .u8 x.f2, .bool x.f3.f0, .int .u64 x.f3.f1], rfl, rfl, ⟨[.int .u8 x.f2], [.bool x.f3.f0, .int .u64 x.f3.f1], rfl, rfl, (k75_mk w x.f3 )⟩⟩⟩
theorem k77_mkM (w : World) (base : Nat) (ok : Nat → Prop) (x : S77)  : k77.M w base ok x [.int .i64 x.f0, .int .u8 x.f1, .int .u8 x.f2, .bool x.f3.f0, .int .u64 x.f3.f1] := ⟨[.int .i64 x.f0], [.int .u8 x.f1, .int .u8 x.f2, .bool x.f3.f0, .int .u64 x.f3.f1], rfl, rfl, ⟨[.int .u8 x.f1], [.int .u8 x.f2, .bool x.f3.f0, .int .u64 x.f3.f1], rfl, rfl, ⟨[.int .u8 x.f2], [.bool x.f3.f0, .int .u64 x.f3.f1], rfl, rfl, (k75_mkM w base ok x.f3 )⟩⟩⟩
theorem k77_mkF (W : World) (ok : Nat → Prop) (x : S77) : Kd.FK k77 W ok x [.int .i64 x.f0, .int .u8 x.f1, .int .u8 x.f2, .bool x.f3.f0, .int .u64 x.f3.f1] := fun W2 _ => k77_mk W2 x
def rd_T77 (xs : List S77) (i : Int) : S77 := xs.getD i.toNat z77
theorem at_T77 {w : World} {A : Option Addr} {n : Nat} {xs : List S77} (h : Kd.C k77 w A n xs) (i : Int) (h0 : 0 ≤ i) (h1 : i < n) : ∃ ad , A = some ad ∧ w.cell? (ad.add (i.toNat * 5)) = some (.int .i64 (rd_T77 xs i).f0) ∧ w.cell? ⟨(ad.add (i.toNat * 5)).block, (ad.add (i.toNat * 5)).off + 1, none⟩ = some (.int .u8 (rd_T77 xs i).f1) ∧ w.cell? ⟨(ad.add (i.toNat * 5)).block, (ad.add (i.toNat * 5)).off + 2, none⟩ = some (.int .u8 (rd_T77 xs i).f2) ∧ w.cell? ⟨(ad.add (i.toNat * 5)).block, (ad.add (i.toNat * 5)).off + 3, none⟩ = some (.bool (rd_T77 xs i).f3.f0) ∧ w.cell? ⟨(ad.add (i.toNat * 5)).block, (ad.add (i.toNat * 5)).off + 4, none⟩ = some (.int .u64 (rd_T77 xs i).f3.f1) := by
  obtain ⟨ad, c, e, _, hK, hc0⟩ := Kd.C_get h z77 i h0 h1
  have hc : ∀ j u, c[j]? = some u → w.cell? (ad.add (i.toNat * 5 + j)) = some u := hc0
  obtain rfl := k77_open hK
  exact ⟨ad, e, hc 0 _ rfl, by rw [← add_field _ _ 1 (by omega)]; exact hc 1 _ rfl, by rw [← add_field _ _ 2 (by omega)]; exact hc 2 _ rfl, by rw [← add_field _ _ 3 (by omega)]; exact hc 3 _ rfl, by rw [← add_field _ _ 4 (by omega)]; exact hc 4 _ rfl⟩

/-! #### struct type 79 -/
structure S79 where
  f0 : S75
  f1 : S75
def z79 : S79 := ⟨z75, z75⟩
def k79 : Kd S79 := Kd.iso (Kd.pair k75 k75) (fun x : S79 => (x.f0, x.f1))
theorem k79_heap : Kd.Heap k79 := Kd.heap_iso _ (Kd.heap_pair k75_heap k75_heap)
theorem k79_open {w : World} {x : S79} {cs : List Value} (h : k79.K w x cs) : cs = [.bool x.f0.f0, .int .u64 x.f0.f1, .bool x.f1.f0, .int .u64 x.f1.f1] := by
  obtain ⟨_, _, rfl, s0, s2⟩ := h
  obtain rfl := k75_open s0
  obtain rfl := k75_open s2
  exact rfl
theorem k79_openM {w : World} {base : Nat} {ok : Nat → Prop} {x : S79} {cs : List Value} (h : k79.M w base ok x cs) : cs = [.bool x.f0.f0, .int .u64 x.f0.f1, .bool x.f1.f0, .int .u64 x.f1.f1] := by
  obtain ⟨_, _, rfl, s0, s2⟩ := h
  obtain rfl := k75_openM s0
  obtain rfl := k75_openM s2
  exact rfl
theorem k79_mk (w : World) (x : S79)  : k79.K w x [.bool x.f0.f0, .int .u64 x.f0.f1, .bool x.f1.f0, .int .u64 x.f1.f1] := ⟨[.bool x.f0.f0, .int .u64 x.f0.f1], [.bool x.f1.f0, .int .u64 x.f1.f1], rfl, (k75_mk w x.f0 ), (k75_mk w x.f1 )⟩
theorem k79_mkM (w : World) (base : Nat) (ok : Nat → Prop) (x : S79)  : k79.M w base ok x [.bool x.f0.f0, .int .u64 x.f0.f1, .bool x.f1.f0, .int .u64 x.f1.f1] := ⟨[.bool x.f0.f0, .int .u64 x.f0.f1], [.bool x.f1.f0, .int .u64 x.f1.f1], rfl, (k75_mkM w base ok x.f0 ), (k75_mkM w base ok x.f1 )⟩
theorem k79_mkF (W : World) (ok : Nat → Prop) (x : S79) : Kd.FK k79 W ok x [.bool x.f0.f0, .int .u64 x.f0.f1, .bool x.f1.f0, .int .u64 x.f1.f1] := fun W2 _ => k79_mk W2 x
def rd_T79 (xs : List S79) (i : Int) : S79 := xs.getD i.toNat z79
theorem at_T79 {w : World} {A : Option Addr} {n : Nat} {xs : List S79} (h : Kd.C k79 w A n xs) (i : Int) (h0 : 0 ≤ i) (h1 : i < n) : ∃ ad , A = some ad ∧ w.cell? (ad.add (i.toNat * 4)) = some (.bool (rd_T79 xs i).f0.f0) ∧ w.cell? ⟨(ad.add (i.toNat * 4)).block, (ad.add (i.toNat * 4)).off + 1, none⟩ = some (.int .u64 (rd_T79 xs i).f0.f1) ∧ w.cell? ⟨(ad.add (i.toNat * 4)).block, (ad.add (i.toNat * 4)).off + 2, none⟩ = some (.bool (rd_T79 xs i).f1.f0) ∧ w.cell? ⟨(ad.add (i.toNat * 4)).block, (ad.add (i.toNat * 4)).off + 3, none⟩ = some (.int .u64 (rd_T79 xs i).f1.f1) := by
  obtain ⟨ad, c, e, _, hK, hc0⟩ := Kd.C_get h z79 i h0 h1
  have hc : ∀ j u, c[j]? = some u → w.cell? (ad.add (i.toNat * 4 + j)) = some u := hc0
  obtain rfl := k79_open hK
  exact ⟨ad, e, hc 0 _ rfl, by rw [← add_field _ _ 1 (by omega)]; exact hc 1 _ rfl, by rw [← add_field _ _ 2 (by omega)]; exact hc 2 _ rfl, by rw [← add_field _ _ 3 (by omega)]; exact hc 3 _ rfl⟩

/-! #### struct type 25 -/
structure S25 where
  f0 : Int
  f1 : Int
def z25 : S25 := ⟨(0 : Int), (0 : Int)⟩
def k25 : Kd S25 := Kd.iso (Kd.pair (Kd.int .i64) (Kd.int .i64)) (fun x : S25 => (x.f0, x.f1))
theorem k25_heap : Kd.Heap k25 := Kd.heap_iso _ (Kd.heap_pair (Kd.heap_int .i64) (Kd.heap_int .i64))
theorem k25_open {w : World} {x : S25} {cs : List Value} (h : k25.K w x cs) : cs = [.int .i64 x.f0, .int .i64 x.f1] := by
  obtain ⟨_, _, rfl, rfl, rfl⟩ := h
  exact rfl
theorem k25_openM {w : World} {base : Nat} {ok : Nat → Prop} {x : S25} {cs : List Value} (h : k25.M w base ok x cs) : cs = [.int .i64 x.f0, .int .i64 x.f1] := by
  obtain ⟨_, _, rfl, rfl, rfl⟩ := h
  exact rfl
theorem k25_mk (w : World) (x : S25)  : k25.K w x [.int .i64 x.f0, .int .i64 x.f1] := ⟨[.int .i64 x.f0], [.int .i64 x.f1], rfl, rfl, rfl⟩
theorem k25_mkM (w : World) (base : Nat) (ok : Nat → Prop) (x : S25)  : k25.M w base ok x [.int .i64 x.f0, .int .i64 x.f1] := ⟨[.int .i64 x.f0], [.int .i64 x.f1], rfl, rfl, rfl⟩
theorem k25_mkF (W : World) (ok : Nat → Prop) (x : S25) : Kd.FK k25 W ok x [.int .i64 x.f0, .int .i64 x.f1] := fun W2 _ => k25_mk W2 x
def rd_T25 (xs : List S25) (i : Int) : S25 := xs.getD i.toNat z25
theorem at_T25 {w : World} {A : Option Addr} {n : Nat} {xs : List S25} (h : Kd.C k25 w A n xs) (i : Int) (h0 : 0 ≤ i) (h1 : i < n) : ∃ ad , A = some ad ∧ w.cell? (ad.add (i.toNat * 2)) = some (.int .i64 (rd_T25 xs i).f0) ∧ w.cell? ⟨(ad.add (i.toNat * 2)).block, (ad.add (i.toNat * 2)).off + 1, none⟩ = some (.int .i64 (rd_T25 xs i).f1) := by
  obtain ⟨ad, c, e, _, hK, hc0⟩ := Kd.C_get h z25 i h0 h1
  have hc : ∀ j u, c[j]? = some u → w.cell? (ad.add (i.toNat * 2 + j)) = some u := hc0
  obtain rfl := k25_open hK
  exact ⟨ad, e, hc 0 _ rfl, by rw [← add_field _ _ 1 (by omega)]; exact hc 1 _ rfl⟩

/-! #### struct type 31 -/
structure S31 where
  f0 : Int
  f1 : ByteArray
  f2 : S25
def z31 : S31 := ⟨(0 : Int), (⟨#[]⟩ : ByteArray), z25⟩
def k31 : Kd S31 := Kd.iso (Kd.pair (Kd.int .u8) (Kd.pair Kd.string k25)) (fun x : S31 => (x.f0, x.f1, x.f2))
theorem k31_heap : Kd.Heap k31 := Kd.heap_iso _ (Kd.heap_pair (Kd.heap_int .u8) (Kd.heap_pair Kd.heap_string k25_heap))
theorem k31_open {w : World} {x : S31} {cs : List Value} (h : k31.K w x cs) : cs = [.int .u8 x.f0, .string x.f1, .int .i64 x.f2.f0, .int .i64 x.f2.f1] := by
  obtain ⟨_, _, rfl, rfl, ⟨_, _, rfl, rfl, s2⟩⟩ := h
  obtain rfl := k25_open s2
  exact rfl
theorem k31_openM {w : World} {base : Nat} {ok : Nat → Prop} {x : S31} {cs : List Value} (h : k31.M w base ok x cs) : cs = [.int .u8 x.f0, .string x.f1, .int .i64 x.f2.f0, .int .i64 x.f2.f1] := by
  obtain ⟨_, _, rfl, rfl, ⟨_, _, rfl, rfl, s2⟩⟩ := h
  obtain rfl := k25_openM s2
  exact rfl
theorem k31_mk (w : World) (x : S31)  : k31.K w x [.int .u8 x.f0, .string x.f1, .int .i64 x.f2.f0, .int .i64 x.f2.f1] := ⟨[.int .u8 x.f0], [.string x.f1, .int .i64 x.f2.f0, .int .i64 x.f2.f1], rfl, rfl, ⟨[.string x.f1], [.int .i64 x.f2.f0, .int .i64 x.f2.f1], rfl, rfl, (k25_mk w x.f2 )⟩⟩
theorem k31_mkM (w : World) (base : Nat) (ok : Nat → Prop) (x : S31)  : k31.M w base ok x [.int .u8 x.f0, .string x.f1, .int .i64 x.f2.f0, .int .i64 x.f2.f1] := ⟨[.int .u8 x.f0], [.string x.f1, .int .i64 x.f2.f0, .int .i64 x.f2.f1], rfl, rfl, ⟨[.string x.f1], [.int .i64 x.f2.f0, .int .i64 x.f2.f1], rfl, rfl, (k25_mkM w base ok x.f2 )⟩⟩
theorem k31_mkF (W : World) (ok : Nat → Prop) (x : S31) : Kd.FK k31 W ok x [.int .u8 x.f0, .string x.f1, .int .i64 x.f2.f0, .int .i64 x.f2.f1] := fun W2 _ => k31_mk W2 x
def rd_T31 (xs : List S31) (i : Int) : S31 := xs.getD i.toNat z31
theorem at_T31 {w : World} {A : Option Addr} {n : Nat} {xs : List S31} (h : Kd.C k31 w A n xs) (i : Int) (h0 : 0 ≤ i) (h1 : i < n) : ∃ ad , A = some ad ∧ w.cell? (ad.add (i.toNat * 4)) = some (.int .u8 (rd_T31 xs i).f0) ∧ w.cell? ⟨(ad.add (i.toNat * 4)).block, (ad.add (i.toNat * 4)).off + 1, none⟩ = some (.string (rd_T31 xs i).f1) ∧ w.cell? ⟨(ad.add (i.toNat * 4)).block, (ad.add (i.toNat * 4)).off + 2, none⟩ = some (.int .i64 (rd_T31 xs i).f2.f0) ∧ w.cell? ⟨(ad.add (i.toNat * 4)).block, (ad.add (i.toNat * 4)).off + 3, none⟩ = some (.int .i64 (rd_T31 xs i).f2.f1) := by
  obtain ⟨ad, c, e, _, hK, hc0⟩ := Kd.C_get h z31 i h0 h1
  have hc : ∀ j u, c[j]? = some u → w.cell? (ad.add (i.toNat * 4 + j)) = some u := hc0
  obtain rfl := k31_open hK
  exact ⟨ad, e, hc 0 _ rfl, by rw [← add_field _ _ 1 (by omega)]; exact hc 1 _ rfl, by rw [← add_field _ _ 2 (by omega)]; exact hc 2 _ rfl, by rw [← add_field _ _ 3 (by omega)]; exact hc 3 _ rfl⟩

abbrev Term := S75
abbrev kTerm : Kd Term := k75
abbrev Node := S85
abbrev kNode : Kd Node := k85
abbrev Spot := S77
abbrev kSpot : Kd Spot := k77
abbrev Bound := S79
abbrev kBound : Kd Bound := k79
abbrev Place := S25
abbrev kPlace : Kd Place := k25
abbrev Word := S31
abbrev kWord : Kd Word := k31
end Go.Proofs.YtjndjmggilcngaaDoor
