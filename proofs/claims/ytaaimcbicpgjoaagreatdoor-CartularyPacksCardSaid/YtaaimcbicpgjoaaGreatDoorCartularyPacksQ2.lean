/- Texts of this seat in one: made by a program of ours. -/
import Derived.Test.YtaaimcbicpgjoaaGreatDoorCartularyPacksQ0
import Derived.Test.YtaaimcbicpgjoaaGreatDoorCartularyPacksQ1
import Derived.Test.YtaaimcbicpgjoaaGreatDoorProg
import Derived.Laws.OwnMore
import Derived.Laws.CopyRow
/- Formulas of 2 Go functions of this seat (written by a program of the author's, vcgen.py), and that each is enough for the call. No condition. -/
set_option linter.unusedVariables false
namespace Go.Proofs.YtaaimcbicpgjoaaGreatDoor
open Go Vc Go.Proofs
set_option maxRecDepth 100000
/-- huff.New -/
def vc_huff_New (x0a : Option Addr) (x0n : Nat) (x0c : Nat) (w : World) (R : Value → World → Prop) : Prop :=
 (((decide ((↑x0n : Int) > 320) = true →
 R (Value.tuple (Array.mk [Value.pointer none, Value.int IntKind.i64 2])) w)) ∧
 (decide ((↑x0n : Int) > 320) = false →
 ∃ w1 : World, ∃ l2 : Sl, (Sem.run Tryz.prog (Builtin.append_ (Array.mk [58, 58]) 58 (Array.mk [Value.slice none 0 0, Value.slice x0a x0n x0c])) w = Result.ok (Value.slice l2.1 l2.2 l2.3) w1 ∧
 ∀ w3 : World,
 (w3 = World.alloc w1 (Obj.cells (Array.mk [Value.slice l2.1 l2.2 l2.3, Value.int IntKind.i64 0, Value.int IntKind.i64 0, Value.int IntKind.i64 0, Value.int IntKind.i64 0, Value.int IntKind.i64 0, Value.int IntKind.i64 0, Value.int IntKind.i64 0, Value.int IntKind.i64 0, Value.int IntKind.i64 0, Value.int IntKind.i64 0, Value.int IntKind.i64 0, Value.int IntKind.i64 0, Value.int IntKind.i64 0, Value.int IntKind.i64 0, Value.int IntKind.i64 0, Value.int IntKind.i64 0, Value.slice none 0 0]) 147) →
 ∃ I4 : Int → World → Prop, ∃ I5 : Int → World → Nat, (I4 0 w3 ∧
 ∀ n6 : Int,
 ∀ w7 : World,
 (I4 n6 w7 →
 (((decide (n6 < (↑x0n : Int)) = true →
 ((0 ≤ n6 ∧
 n6 < (↑x0n : Int)) ∧
 ∃ a8 : Addr, (x0a = some a8 ∧
 ∃ n9 : Int, (World.cell? w7 (Addr.add a8 (Int.toNat n6 * 1)) = some (Value.int IntKind.i64 n9) ∧
 (((decide (n9 < 0) = true →
 R (Value.tuple (Array.mk [Value.pointer none, Value.int IntKind.i64 1])) w7)) ∧
 (decide (n9 < 0) = false →
 (((decide (n9 > 15) = true →
 R (Value.tuple (Array.mk [Value.pointer none, Value.int IntKind.i64 1])) w7)) ∧
 (decide (n9 > 15) = false →
 ∀ w10 : World,
 (Drew w7 w10 →
 ((0 ≤ n9 ∧
 n9 < (↑16 : Int)) ∧
 ∃ n11 : Int, (World.cell? w10 (Addr.add (Addr.mk (Array.size (World.heap w1)) 1 none) (Int.toNat n9 * 1)) = some (Value.int IntKind.i64 n11) ∧
 ((0 ≤ n9 ∧
 n9 < (↑16 : Int)) ∧
 (Wr w10 (Addr.add (Addr.mk (Array.size (World.heap w1)) 1 none) (Int.toNat n9 * 1)) ∧
 ∀ w12 : World,
 (w12 = World.setCell w10 (Addr.add (Addr.mk (Array.size (World.heap w1)) 1 none) (Int.toNat n9 * 1)) (Value.int IntKind.i64 (IntKind.wrap IntKind.i64 (n11 + 1))) →
 (I4 (IntKind.wrap IntKind.i64 (n6 + 1)) w12 ∧
 I5 (IntKind.wrap IntKind.i64 (n6 + 1)) w12 < I5 n6 w7)))))))))))))))) ∧
 (decide (n6 < (↑x0n : Int)) = false →
 ∃ I13 : Int → Int → Int → World → Prop, ∃ I14 : Int → Int → Int → World → Nat, (I13 1 0 1 w7 ∧
 ∀ n15 : Int,
 ∀ n16 : Int,
 ∀ n17 : Int,
 ∀ w18 : World,
 (I13 n15 n16 n17 w18 →
 (((decide (n17 ≤ 15) = true →
 ((0 ≤ n17 ∧
 n17 < (↑16 : Int)) ∧
 ∃ n19 : Int, (World.cell? w18 (Addr.add (Addr.mk (Array.size (World.heap w1)) 1 none) (Int.toNat n17 * 1)) = some (Value.int IntKind.i64 n19) ∧
 ((0 ≤ n17 ∧
 n17 < (↑16 : Int)) ∧
 ∃ n20 : Int, (World.cell? w18 (Addr.add (Addr.mk (Array.size (World.heap w1)) 1 none) (Int.toNat n17 * 1)) = some (Value.int IntKind.i64 n20) ∧
 (((decide (IntKind.wrap IntKind.i64 (IntKind.wrap IntKind.i64 (2 * n15) - n19) < 0) = true →
 R (Value.tuple (Array.mk [Value.pointer none, Value.int IntKind.i64 4])) w18)) ∧
 (decide (IntKind.wrap IntKind.i64 (IntKind.wrap IntKind.i64 (2 * n15) - n19) < 0) = false →
 ∃ I21 : Int → World → Prop, ∃ I22 : Int → World → Nat, (I21 0 w18 ∧
 ∀ n23 : Int,
 ∀ w24 : World,
 (I21 n23 w24 →
 (((decide (n23 < (↑x0n : Int)) = true →
 ((0 ≤ n23 ∧
 n23 < (↑x0n : Int)) ∧
 ∃ a25 : Addr, (x0a = some a25 ∧
 ∃ n26 : Int, (World.cell? w24 (Addr.add a25 (Int.toNat n23 * 1)) = some (Value.int IntKind.i64 n26) ∧
 ((((n26 == n17) = true →
 ∃ l27 : Sl, (World.cell? w24 (Addr.mk (Array.size (World.heap w1)) 17 none) = some (Value.slice l27.1 l27.2 l27.3) ∧
 ∀ w28 : World,
 (w28 = World.alloc w24 (Obj.cells (Array.mk [Value.int IntKind.i64 n23]) 3) →
 ∃ w29 : World, ∃ l30 : Sl, (Sem.run Tryz.prog (Builtin.append_ (Array.mk [58, 58]) 58 (Array.mk [Value.slice l27.1 l27.2 l27.3, Value.slice (some (Addr.mk (Array.size (World.heap w24)) 0 none)) 1 1])) w28 = Result.ok (Value.slice l30.1 l30.2 l30.3) w29 ∧
 (Wr w29 (Addr.mk (Array.size (World.heap w1)) 17 none) ∧
 ∀ w31 : World,
 (w31 = World.setCell w29 (Addr.mk (Array.size (World.heap w1)) 17 none) (Value.slice l30.1 l30.2 l30.3) →
 (I21 (IntKind.wrap IntKind.i64 (n23 + 1)) w31 ∧
 I22 (IntKind.wrap IntKind.i64 (n23 + 1)) w31 < I22 n23 w24)))))))) ∧
 ((n26 == n17) = false →
 (I21 (IntKind.wrap IntKind.i64 (n23 + 1)) w24 ∧
 I22 (IntKind.wrap IntKind.i64 (n23 + 1)) w24 < I22 n23 w24)))))))) ∧
 (decide (n23 < (↑x0n : Int)) = false →
 (I13 (IntKind.wrap IntKind.i64 (IntKind.wrap IntKind.i64 (2 * n15) - n19)) (IntKind.wrap IntKind.i64 (n16 + n20)) (IntKind.wrap IntKind.i64 (n17 + 1)) w24 ∧
 I14 (IntKind.wrap IntKind.i64 (IntKind.wrap IntKind.i64 (2 * n15) - n19)) (IntKind.wrap IntKind.i64 (n16 + n20)) (IntKind.wrap IntKind.i64 (n17 + 1)) w24 < I14 n15 n16 n17 w18))))))))))))) ∧
 (decide (n17 ≤ 15) = false →
 (((decide (n15 > 0) = true →
 (((decide (n16 > 0) = true →
 ((((n16 == 1) = true →
 (((0 : Int) ≤ (1 : Int) ∧
 (1 : Int) < (↑(16 : Nat) : Int)) ∧
 ∃ n32 : Int, (World.cell? w18 (Addr.add (Addr.mk (Array.size (World.heap w1)) 1 none) (Int.toNat 1 * 1)) = some (Value.int IntKind.i64 n32) ∧
 ((((!n32 == 1) = true →
 R (Value.tuple (Array.mk [Value.pointer none, Value.int IntKind.i64 4])) w18)) ∧
 ((!n32 == 1) = false →
 R (Value.tuple (Array.mk [Value.pointer (some (Addr.mk (Array.size (World.heap w1)) 0 none)), Value.int IntKind.i64 0])) w18)))))) ∧
 ((n16 == 1) = false →
 R (Value.tuple (Array.mk [Value.pointer none, Value.int IntKind.i64 4])) w18)))) ∧
 (decide (n16 > 0) = false →
 R (Value.tuple (Array.mk [Value.pointer (some (Addr.mk (Array.size (World.heap w1)) 0 none)), Value.int IntKind.i64 0])) w18)))) ∧
 (decide (n15 > 0) = false →
 R (Value.tuple (Array.mk [Value.pointer (some (Addr.mk (Array.size (World.heap w1)) 0 none)), Value.int IntKind.i64 0])) w18))))))))))))))
theorem vc_huff_New_ok {x0a : Option Addr} {x0n : Nat} {x0c : Nat} {w : World} {R : Value → World → Prop} {R' : Ending → World → Prop} (h : vc_huff_New x0a x0n x0c w R) (hR : ∀ v w', R v w' → R' (.returned v) w') :
    Calls Tryz.prog 92 #[.slice x0a x0n x0c] w R' :=
  calls_of_body (vs := [(.slice x0a x0n x0c, false)]) (ty := ty) (ann := ⟨[], [(5, [(21, .int .i64)]), (13, [(7, .int .i64), (8, .int .i64), (9, .int .i64)]), (20, [(67, .int .i64)])], [(9, .tail 10)], []⟩) (c := Tryz.f92.body.getD .skip) (by kernel_rfl) Tryz.func92 (by kernel_rfl) (by kernel_rfl) (Eq.mp (by kernel_rfl) h) hR
/-- (*huff.Table).Read -/
def vc_huff_Table_Read (x0 : Nat) (x1 : Nat) (w : World) (R : Value → World → Prop) : Prop :=
 ∃ l1 : Sl, (World.cell? w (Addr.mk x0 17 none) = some (Value.slice l1.1 l1.2 l1.3) ∧
 (((((↑l1.2 : Int) == 0) = true →
 R (Value.tuple (Array.mk [Value.int IntKind.i64 0, Value.int IntKind.i64 3])) w)) ∧
 (((↑l1.2 : Int) == 0) = false →
 ∃ I2 : Int → Int → Int → Int → World → Prop, ∃ I3 : Int → Int → Int → Int → World → Nat, (I2 0 0 0 1 w ∧
 ∀ n4 : Int,
 ∀ n5 : Int,
 ∀ n6 : Int,
 ∀ n7 : Int,
 ∀ w8 : World,
 (I2 n4 n5 n6 n7 w8 →
 (((decide (n7 ≤ 15) = true →
 Calls Tryz.prog (103 : Nat) (Array.mk [Value.pointer (some (Addr.mk x1 0 none)), Value.int IntKind.i64 1]) (w8) (fun e9 w10 =>
 ∃ n11 : Int, ∃ b12 : Bool, (e9 = Ending.returned (Value.tuple (Array.mk [Value.int IntKind.u32 n11, Value.bool b12])) ∧
 ((((!b12) = true →
 R (Value.tuple (Array.mk [Value.int IntKind.i64 0, Value.int IntKind.i64 6])) w10)) ∧
 ((!b12) = false →
 ((0 : Int) ≤ (1 : Int) ∧
 ((0 ≤ n7 ∧
 n7 < (↑16 : Int)) ∧
 ∃ n13 : Int, (World.cell? w10 (Addr.add (Addr.mk x0 1 none) (Int.toNat n7 * 1)) = some (Value.int IntKind.i64 n13) ∧
 (((decide (IntKind.wrap IntKind.i64 (IntKind.wrap IntKind.i64 (↑(BitVec.toNat (BitVec.ofInt 64 (IntKind.wrap IntKind.i64 (n4 * 2 ^ min (Int.toNat 1) 64)) ||| BitVec.ofInt 64 (IntKind.wrap IntKind.i64 n11))) : Int) - n5) < n13) = true →
 ∃ l14 : Sl, (World.cell? w10 (Addr.mk x0 17 none) = some (Value.slice l14.1 l14.2 l14.3) ∧
 ((0 ≤ IntKind.wrap IntKind.i64 (n6 + IntKind.wrap IntKind.i64 (IntKind.wrap IntKind.i64 (↑(BitVec.toNat (BitVec.ofInt 64 (IntKind.wrap IntKind.i64 (n4 * 2 ^ min (Int.toNat 1) 64)) ||| BitVec.ofInt 64 (IntKind.wrap IntKind.i64 n11))) : Int) - n5)) ∧
 IntKind.wrap IntKind.i64 (n6 + IntKind.wrap IntKind.i64 (IntKind.wrap IntKind.i64 (↑(BitVec.toNat (BitVec.ofInt 64 (IntKind.wrap IntKind.i64 (n4 * 2 ^ min (Int.toNat 1) 64)) ||| BitVec.ofInt 64 (IntKind.wrap IntKind.i64 n11))) : Int) - n5)) < (↑l14.2 : Int)) ∧
 ∃ a15 : Addr, (l14.1 = some a15 ∧
 ∃ n16 : Int, (World.cell? w10 (Addr.add a15 (Int.toNat (IntKind.wrap IntKind.i64 (n6 + IntKind.wrap IntKind.i64 (IntKind.wrap IntKind.i64 (↑(BitVec.toNat (BitVec.ofInt 64 (IntKind.wrap IntKind.i64 (n4 * 2 ^ min (Int.toNat 1) 64)) ||| BitVec.ofInt 64 (IntKind.wrap IntKind.i64 n11))) : Int) - n5))) * 1)) = some (Value.int IntKind.i64 n16) ∧
 R (Value.tuple (Array.mk [Value.int IntKind.i64 n16, Value.int IntKind.i64 0])) w10)))))) ∧
 (decide (IntKind.wrap IntKind.i64 (IntKind.wrap IntKind.i64 (↑(BitVec.toNat (BitVec.ofInt 64 (IntKind.wrap IntKind.i64 (n4 * 2 ^ min (Int.toNat 1) 64)) ||| BitVec.ofInt 64 (IntKind.wrap IntKind.i64 n11))) : Int) - n5) < n13) = false →
 ((0 ≤ n7 ∧
 n7 < (↑16 : Int)) ∧
 ∃ n17 : Int, (World.cell? w10 (Addr.add (Addr.mk x0 1 none) (Int.toNat n7 * 1)) = some (Value.int IntKind.i64 n17) ∧
 ((0 ≤ n7 ∧
 n7 < (↑16 : Int)) ∧
 ∃ n18 : Int, (World.cell? w10 (Addr.add (Addr.mk x0 1 none) (Int.toNat n7 * 1)) = some (Value.int IntKind.i64 n18) ∧
 ((0 : Int) ≤ (1 : Int) ∧
 ∃ l19 : Sl, (World.cell? w10 (Addr.mk x0 17 none) = some (Value.slice l19.1 l19.2 l19.3) ∧
 ((((IntKind.wrap IntKind.i64 (n6 + n17) == (↑l19.2 : Int)) = true →
 R (Value.tuple (Array.mk [Value.int IntKind.i64 0, Value.int IntKind.i64 3])) w10)) ∧
 ((IntKind.wrap IntKind.i64 (n6 + n17) == (↑l19.2 : Int)) = false →
 (I2 (IntKind.wrap IntKind.i64 (↑(BitVec.toNat (BitVec.ofInt 64 (IntKind.wrap IntKind.i64 (n4 * 2 ^ min (Int.toNat 1) 64)) ||| BitVec.ofInt 64 (IntKind.wrap IntKind.i64 n11))) : Int)) (IntKind.wrap IntKind.i64 (IntKind.wrap IntKind.i64 (n5 + n18) * 2 ^ min (Int.toNat 1) 64)) (IntKind.wrap IntKind.i64 (n6 + n17)) (IntKind.wrap IntKind.i64 (n7 + 1)) w10 ∧
 I3 (IntKind.wrap IntKind.i64 (↑(BitVec.toNat (BitVec.ofInt 64 (IntKind.wrap IntKind.i64 (n4 * 2 ^ min (Int.toNat 1) 64)) ||| BitVec.ofInt 64 (IntKind.wrap IntKind.i64 n11))) : Int)) (IntKind.wrap IntKind.i64 (IntKind.wrap IntKind.i64 (n5 + n18) * 2 ^ min (Int.toNat 1) 64)) (IntKind.wrap IntKind.i64 (n6 + n17)) (IntKind.wrap IntKind.i64 (n7 + 1)) w10 < I3 n4 n5 n6 n7 w8)))))))))))))))))))) ∧
 (decide (n7 ≤ 15) = false →
 R (Value.tuple (Array.mk [Value.int IntKind.i64 0, Value.int IntKind.i64 3])) w8)))))))
theorem vc_huff_Table_Read_ok {x0 : Nat} {x1 : Nat} {w : World} {R : Value → World → Prop} {R' : Ending → World → Prop} (h : vc_huff_Table_Read x0 x1 w R) (hR : ∀ v w', R v w' → R' (.returned v) w') :
    Calls Tryz.prog 106 #[.pointer (some ⟨x0, 0, none⟩), .pointer (some ⟨x1, 0, none⟩)] w R' :=
  calls_of_body (vs := [(.pointer (some ⟨x0, 0, none⟩), true), (.pointer (some ⟨x1, 0, none⟩), true)]) (ty := ty) (ann := ⟨[], [(5, [(6, .int .i64), (7, .int .i64), (8, .int .i64), (9, .int .i64)])], [], []⟩) (c := Tryz.f106.body.getD .skip) (by kernel_rfl) Tryz.func106 (by kernel_rfl) (by kernel_rfl) (Eq.mp (by kernel_rfl) h) hR
end Go.Proofs.YtaaimcbicpgjoaaGreatDoor

/- What New, Code and Read of the package huff do. Conditions: the lists are short enough for a slice to hold; a table and a reader are in order. -/
set_option linter.unusedVariables false
namespace Go.Proofs.YtaaimcbicpgjoaaGreatDoor
open Go Vc BitsM HuffM Go.Proofs

theorem elInt : El Tryz.prog T_S_int T_int (.int .i64 0) 8 := ⟨by kernel_rfl, by kernel_rfl, rfl⟩
abbrev iv (l : List Int) : List Value := l.map (Value.int .i64)
abbrev nv (l : List Nat) : List Value := l.map (fun x : Nat => Value.int .i64 (x : Int))
theorem iv_nats {zs : List Int} (h : ∀ z ∈ zs, 0 ≤ z) : iv zs = nv (zs.map Int.toNat) := by
  simp only [iv, nv, List.map_map]
  exact List.map_congr_left fun z hz => by simp only [Function.comp_apply]; congr 1; have := h z hz; omega
theorem one_iv (l : List Int) : ∀ u ∈ iv l, u.oneCell' = true := fun u h => by
  obtain ⟨b, _, rfl⟩ := List.mem_map.1 h; rfl

/-- A table's cells. -/
def tcells (l1 : Sl) (c : Nat → Nat) (l2 : Sl) : Array Value :=
  #[.slice l1.a l1.len l1.cap, .int .i64 (c 0), .int .i64 (c 1), .int .i64 (c 2), .int .i64 (c 3), .int .i64 (c 4), .int .i64 (c 5), .int .i64 (c 6), .int .i64 (c 7),
    .int .i64 (c 8), .int .i64 (c 9), .int .i64 (c 10), .int .i64 (c 11), .int .i64 (c 12), .int .i64 (c 13), .int .i64 (c 14), .int .i64 (c 15), .slice l2.a l2.len l2.cap]
theorem tcells_get (l1 : Sl) (c : Nat → Nat) (l2 : Sl) : ∀ n, n < 16 → (tcells l1 c l2)[1 + n]? = some (.int .i64 (c n)) := by
  intro n h
  match n, h with
  | 0, _ | 1, _ | 2, _ | 3, _ | 4, _ | 5, _ | 6, _ | 7, _ | 8, _ | 9, _ | 10, _ | 11, _ | 12, _ | 13, _ | 14, _ | 15, _ => rfl
  | n + 16, h => omega
theorem tcells_set (l1 : Sl) (c : Nat → Nat) (l2 : Sl) (x : Nat) : ∀ n, n < 16 → (tcells l1 c l2).setIfInBounds (1 + n) (.int .i64 x) = tcells l1 (fun m => if m = n then x else c m) l2 := by
  intro n h
  match n, h with
  | 0, _ | 1, _ | 2, _ | 3, _ | 4, _ | 5, _ | 6, _ | 7, _ | 8, _ | 9, _ | 10, _ | 11, _ | 12, _ | 13, _ | 14, _ | 15, _ => rfl
  | n + 16, h => omega
theorem tcells_congr (l1 : Sl) {c d : Nat → Nat} (l2 : Sl) (h : ∀ n, n < 16 → c n = d n) : tcells l1 c l2 = tcells l1 d l2 := by
  simp only [tcells, h 0 (by decide), h 1 (by decide), h 2 (by decide), h 3 (by decide), h 4 (by decide), h 5 (by decide), h 6 (by decide), h 7 (by decide), h 8 (by decide), h 9 (by decide), h 10 (by decide), h 11 (by decide),
    h 12 (by decide), h 13 (by decide), h 14 (by decide), h 15 (by decide)]

/-- A table that is being made. -/
structure TabW (w : World) (lo b : Nat) (l1 : Sl) (zs : List Int) (c : Nat → Nat) (xs : List Nat) (l2 : Sl) : Prop where
  hlo : lo ≤ b
  blk : w.heap[b]? = some (.cells (tcells l1 c l2) T_huff_Table)
  o1 : Vc.Own w lo T_int l1 (iv zs)
  b1 : ∀ x, l1.a = some x → x.block < b
  o2 : Vc.Own w (b + 1) T_int l2 (nv xs)
section
variable {w w2 : World} {lo b : Nat} {l1 : Sl} {zs : List Int} {c : Nat → Nat} {xs : List Nat} {l2 : Sl}
theorem TabW.cnt (h : TabW w lo b l1 zs c xs l2) {n : Nat} (hn : n < 16) : w.cell? (Addr.add ⟨b, 1, none⟩ (n * 1)) = some (.int .i64 (c n)) := by
  rw [add_lit, cell_blk h.blk, Nat.mul_one, tcells_get _ _ _ n hn]
theorem TabW.c0 (h : TabW w lo b l1 zs c xs l2) : w.cell? ⟨b, 0, none⟩ = some (.slice l1.a l1.len l1.cap) := by rw [cell_blk h.blk]; rfl
theorem TabW.c17 (h : TabW w lo b l1 zs c xs l2) : w.cell? ⟨b, 17, none⟩ = some (.slice l2.a l2.len l2.cap) := by rw [cell_blk h.blk]; rfl
theorem TabW.keep (h : TabW w lo b l1 zs c xs l2) {X : Nat → Prop} (hf : Fr X w w2) (hx : ∀ k, lo ≤ k → k < w.heap.size → ¬ X k) : TabW w2 lo b l1 zs c xs l2 :=
  ⟨h.hlo, hf.keep h.blk (hx b h.hlo (lt_blk h.blk)), h.o1.keep hf (fun x hxx => hx _ (h.o1.blk hxx).1 (h.o1.blk hxx).2), h.b1, h.o2.keep hf (fun x hxx => hx _ (by have := (h.o2.blk hxx).1; have := h.hlo; omega) (h.o2.blk hxx).2)⟩
theorem TabW.keep2 (ht : TabW w lo b l1 zs c xs l2) {hi : Nat} (hb : b < hi) (h2 : ∀ x, l2.a = some x → x.block < hi) {X : Nat → Prop} (hf : Fr X w w2) (hx : ∀ k, lo ≤ k → k < hi → ¬ X k) : TabW w2 lo b l1 zs c xs l2 :=
  ⟨ht.hlo, hf.keep ht.blk (hx b ht.hlo hb), ht.o1.keep hf fun x hxx => hx _ (ht.o1.blk hxx).1 (by have := ht.b1 x hxx; omega), ht.b1, ht.o2.keep hf fun x hxx => hx _ (by have := (ht.o2.blk hxx).1; have := ht.hlo; omega) (h2 x hxx)⟩
end

/-- What is said of lengths: nought, or the error. -/
def chk (zs : List Int) : Nat :=
  if 320 < zs.length then 2
  else if ∃ z ∈ zs, z < 0 ∨ 15 < z then 1
  else if 32768 < fin (zs.map Int.toNat) 15 ∨ (fin (zs.map Int.toNat) 15 < 32768 ∧ 0 < (sorted (zs.map Int.toNat) 15).length ∧ ¬ ((sorted (zs.map Int.toNat) 15).length = 1 ∧ (zs.map Int.toNat).count 1 = 1)) then 4
  else 0

/-- A finished table of codes, whose blocks lie from lo up to hi. -/
structure Tab (w : World) (lo hi b : Nat) (ls : List Nat) : Prop where
  fits : Fits ls
  gap : Full ls ∨ (sorted ls 15).length = 0 ∨ ((sorted ls 15).length = 1 ∧ ls.count 1 = 1)
  small : ls.length ≤ 320
  at_ : ∃ l1 l2, TabW w lo b l1 (ls.map Int.ofNat) (fun n => ls.count n) (sorted ls 15) l2 ∧ b < hi ∧ ∀ x, l2.a = some x → x.block < hi
theorem Tab.keep {w w2 : World} {lo hi b : Nat} {ls : List Nat} (h : Tab w lo hi b ls) {X : Nat → Prop} (hf : Fr X w w2) (hx : ∀ k, lo ≤ k → k < hi → ¬ X k) : Tab w2 lo hi b ls := by
  obtain ⟨l1, l2, ht, hb, h2⟩ := h.at_
  exact ⟨h.fits, h.gap, h.small, l1, l2, ht.keep2 hb h2 hf hx, hb, h2⟩
theorem Tab.lt {w : World} {lo hi b : Nat} {ls : List Nat} (h : Tab w lo hi b ls) : lo ≤ b ∧ b < hi := by
  obtain ⟨l1, l2, ht, hb, h2⟩ := h.at_; exact ⟨ht.hlo, hb⟩
theorem Tab.drew {w w2 : World} {lo hi b : Nat} {ls : List Nat} (h : Tab w lo hi b ls) (d : Drew w w2) : Tab w2 lo hi b ls := h.keep (.drew (fun _ => False) d) (by simp)

theorem count_take_step' (ls : List Nat) (n : Nat) {s m : Nat} (h : ls[s]? = some m) : (ls.take (s + 1)).count n = (ls.take s).count n + (if m = n then 1 else 0) := by
  obtain ⟨h2, h3⟩ := List.getElem?_eq_some_iff.1 h
  rw [List.take_succ_eq_append_getElem h2, List.count_append, h3]
  by_cases hm : m = n
  · subst hm; simp
  · simp [hm]
/-- The symbols below s whose codes have n bits. -/
def symsTo (ls : List Nat) (n s : Nat) : List Nat := (List.range s).filter (fun i => ls[i]? == some n)
theorem symsTo_all (ls : List Nat) (n : Nat) : symsTo ls n ls.length = syms ls n := rfl
theorem symsTo_succ (ls : List Nat) (n s m : Nat) (h : ls[s]? = some m) : symsTo ls n (s + 1) = symsTo ls n s ++ (if m = n then [s] else []) := by
  rw [symsTo, symsTo, List.range_succ, List.filter_append]
  congr 1
  by_cases hm : m = n
  · subst hm; simp [h]
  · simp [h, hm]

theorem hnew_spec {a : Option Addr} {zs : List Int} {n c : Nat} {w : World} (hr : Reads w a (iv zs)) (hn : zs.length = n) (ha : ∀ x, a = some x → x.block < w.heap.size) :
    Calls Tryz.prog F_huff_New #[.slice a n c] w fun e w' =>
      ((chk zs ≠ 0 ∧ e = .returned (.tuple #[.pointer none, .int .i64 ((chk zs : Nat) : Int)])) ∨
        (chk zs = 0 ∧ ∃ b, e = .returned (.tuple #[.pointer (some ⟨b, 0, none⟩), .int .i64 0]) ∧ Tab w' w.heap.size w'.heap.size b (zs.map Int.toNat))) ∧ Fr (fun _ => False) w w' := by
  subst hn
  refine vc_huff_New_ok (R := fun v w' => ((chk zs ≠ 0 ∧ v = .tuple #[.pointer none, .int .i64 ((chk zs : Nat) : Int)]) ∨
        (chk zs = 0 ∧ ∃ b, v = .tuple #[.pointer (some ⟨b, 0, none⟩), .int .i64 0] ∧ Tab w' w.heap.size w'.heap.size b (zs.map Int.toNat))) ∧ Fr (fun _ => False) w w') ?_ ?_
  rotate_left
  · rintro v w' ⟨h | h, hf⟩
    · exact ⟨.inl ⟨h.1, by rw [h.2]⟩, hf⟩
    · obtain ⟨h0, b, hv, ht⟩ := h
      exact ⟨.inr ⟨h0, b, by rw [hv], ht⟩, hf⟩
  refine ⟨fun hgt => ?_, fun hle => ?_⟩
  · have hgt := of_decide_eq_true hgt
    have hc : chk zs = 2 := by unfold chk; rw [if_pos (by omega)]
    rw [hc]
    exact ⟨.inl ⟨by decide, rfl⟩, .refl _ _⟩
  have hle := of_decide_eq_false hle
  have hlen : zs.length ≤ 320 := by omega
  obtain ⟨w1, l1, hr1, ho1, hf1⟩ := append_all elInt (Vc.Own.nil w w.heap.size T_int) c hr (one_iv zs) (by simp [maxLen]; omega) (by simp; omega) (Nat.le_refl _) (m := zs.length) (by simp)
  rw [List.nil_append] at ho1
  refine ⟨w1, l1, hr1, ?_⟩
  intro w3 hw3
  have hfw1 : Fr (fun _ => False) w w1 := hf1.mono fun k hk ⟨y, hy, _⟩ => by cases hy
  have hf3 : Fr (fun _ => False) w1 w3 := hw3 ▸ Fr.alloc _ _ _
  have hfw3 := hfw1.trans' hf3
  generalize hB : w1.heap.size = B
  have hblk3 : w3.heap[B]? = some (.cells (tcells l1 (fun n => (([] : List Nat)).count n) ⟨none, 0, 0⟩) T_huff_Table) := by rw [hw3, ← hB]; exact alloc_new _ _
  have hb1 : ∀ x, l1.a = some x → x.block < B := fun x hx => by rw [← hB]; exact (ho1.blk hx).2
  have hloB : w.heap.size ≤ B := by rw [← hB]; exact hfw1.size
  have hat : ∀ {wx : World}, Fr (fun _ => False) w wx → Reads wx a (iv zs) := fun {wx} hf => hr.keep hf (by simp)
  let ls := zs.map Int.toNat
  have hls : ls.length = zs.length := List.length_map ..
  have hget : ∀ {k : Nat}, k < zs.length → ls[k]? = some (zs.getD k 0).toNat := fun {k} hk => by
    simp only [ls, List.getElem?_map, List.getElem?_eq_getElem hk, Option.map_some, List.getD_eq_getElem?_getD, Option.getD_some]
  have hivget : ∀ {k : Nat}, k < zs.length → (iv zs)[k]? = some (.int .i64 (zs.getD k 0)) := fun {k} hk => by
    simp only [iv, List.getElem?_map, List.getElem?_eq_getElem hk, Option.map_some, List.getD_eq_getElem?_getD, Option.getD_some]
  refine ⟨fun i w7 => ∃ k : Nat, k ≤ zs.length ∧ i = (k : Int) ∧ (∀ z ∈ zs.take k, 0 ≤ z ∧ z ≤ 15) ∧ TabW w7 w.heap.size B l1 zs (fun n => (ls.take k).count n) [] ⟨none, 0, 0⟩ ∧ Fr (fun _ => False) w w7, fun i _ => ((zs.length : Int) - i).toNat,
    ⟨0, Nat.zero_le _, rfl, by simp, ⟨hloB, hblk3, ho1.keep hf3 (by simp), hb1, Vc.Own.nil _ _ _⟩, hfw3⟩, ?_⟩
  rintro i w7 ⟨k, hk, rfl, hz, ht, hf⟩
  refine ⟨fun hlt => ?_, fun hge => ?_⟩
  · have hlt := of_decide_eq_true hlt
    have hkl : k < zs.length := by omega
    obtain ⟨x, hx, hcx⟩ := hat hf k _ (hivget hkl)
    have hmem : zs.getD k 0 ∈ zs := by rw [List.getD_eq_getElem?_getD, List.getElem?_eq_getElem hkl]; exact List.getElem_mem hkl
    have hgk := hget hkl
    have htk : zs.take (k + 1) = zs.take k ++ [zs.getD k 0] := by
      rw [List.take_succ_eq_append_getElem hkl, List.getD_eq_getElem?_getD, List.getElem?_eq_getElem hkl]; rfl
    refine ⟨⟨by omega, by omega⟩, x, hx, zs.getD k 0, by rw [Int.toNat_natCast, Nat.mul_one]; exact hcx, ?_⟩
    generalize zs.getD k 0 = z at hmem hgk htk
    have bad : z < 0 ∨ 15 < z → chk zs = 1 := fun h => by
      unfold chk
      rw [if_neg (by omega), if_pos ⟨z, hmem, h⟩]
    refine ⟨fun h => ?_, fun h0 => ⟨fun h => ?_, fun h1 => ?_⟩⟩
    · rw [bad (.inl (of_decide_eq_true h))]; exact ⟨.inl ⟨by decide, rfl⟩, hf⟩
    · rw [bad (.inr (of_decide_eq_true h))]; exact ⟨.inl ⟨by decide, rfl⟩, hf⟩
    have h0 := of_decide_eq_false h0
    have h1 := of_decide_eq_false h1
    intro w10 d10
    have ht10 := ht.keep (.drew (fun _ => False) d10) (by simp)
    obtain ⟨m, rfl⟩ := Int.eq_ofNat_of_zero_le (show 0 ≤ z by omega)
    rw [Int.toNat_natCast] at hgk ⊢
    have hm : m < 16 := by omega
    have hcn := List.count_le_length (a := m) (l := ls.take k)
    have hcl : (ls.take k).length ≤ 320 := by rw [List.length_take]; omega
    refine ⟨⟨by omega, by omega⟩, _, ht10.cnt hm, ⟨by omega, by omega⟩, ?_, ?_⟩
    · rw [add_lit]
      exact wr_blk ht10.blk (by simp [tcells]; omega)
    intro w12 hw12
    have e1 : IntKind.i64.wrap (((ls.take k).count m : Nat) + 1 : Int) = (((ls.take k).count m + 1 : Nat) : Int) := by rw [wrap_i64 (by omega) (by omega)]; omega
    have e2 : IntKind.i64.wrap ((k : Int) + 1) = ((k + 1 : Nat) : Int) := by rw [wrap_i64 (by omega) (by omega)]; omega
    rw [e1, add_lit, Nat.mul_one] at hw12
    have hb12 := set_blk ht10.blk (1 + m) (.int .i64 (((ls.take k).count m + 1 : Nat) : Int))
    rw [← hw12, tcells_set _ _ _ _ m hm] at hb12
    have hf12 : Fr (· = B) w10 w12 := hw12 ▸ Fr.set (· = B) _ (a := ⟨B, 1 + m, none⟩) _ rfl
    rw [e2]
    refine ⟨⟨k + 1, by omega, rfl, ?_, ⟨hloB, ?_, ht10.o1.keep hf12 (fun y hy => by have := hb1 y hy; omega), hb1, Vc.Own.nil _ _ _⟩, (hf.trans' (.drew _ d10)).trans hf12 (fun q hq h => by omega)⟩, by dsimp only; omega⟩
    · intro y hy
      rw [htk, List.mem_append] at hy
      rcases hy with hy | hy
      · exact hz y hy
      · rw [List.mem_singleton] at hy; omega
    · have hc := tcells_congr l1 (c := fun q => if q = m then (ls.take k).count m + 1 else (ls.take k).count q) (d := fun n => (ls.take (k + 1)).count n) ⟨none, 0, 0⟩ (fun q _ => by
        rw [count_take_step' ls q hgk]
        by_cases hq : q = m
        · subst hq; simp
        · rw [if_neg hq, if_neg (fun h => hq h.symm)]; rfl)
      rw [hb12, hc]
  have hge := of_decide_eq_false hge
  have hkk : k = zs.length := by omega
  subst hkk
  rw [List.take_length] at hz
  have htl : ls.take zs.length = ls := List.take_of_length_le (by omega)
  rw [htl] at ht
  have hno : ¬ ∃ z ∈ zs, z < 0 ∨ 15 < z := fun ⟨z, hm, h⟩ => by have := hz z hm; omega
  have h15 : ∀ n ∈ ls, n ≤ 15 := fun n hn => by
    obtain ⟨z, hm, rfl⟩ := List.mem_map.1 hn
    have := hz z hm; omega
  have over : ∀ {m : Nat}, m ≤ 15 → 2 ^ m < fin ls m → chk zs = 4 := fun {m} hm h => by
    have := over_later ls h hm
    unfold chk
    rw [if_neg (by omega), if_neg hno, if_pos (.inl this)]
  have hsl := sorted_le ls
  refine ⟨fun left codes n w' => ∃ (m : Nat) (l2 : Sl), m ≤ 15 ∧ n = (m : Int) + 1 ∧ fin ls m ≤ 2 ^ m ∧ left = ((2 ^ m - fin ls m : Nat) : Int) ∧ codes = (((sorted ls m).length : Nat) : Int) ∧
      TabW w' w.heap.size B l1 zs (fun n => ls.count n) (sorted ls m) l2 ∧ Fr (fun _ => False) w w', fun _ _ n _ => (17 - n).toNat,
    ⟨0, _, Nat.zero_le _, rfl, by simp [fin], by simp [fin], rfl, ht, hf⟩, ?_⟩
  rintro left codes n w18 ⟨m, l2, hm, rfl, hfl, rfl, rfl, ht, hf⟩
  have hp : 2 ^ m ≤ 2 ^ 15 := Nat.pow_le_pow_right (by decide) hm
  have hslm := hsl m
  refine ⟨fun hle => ?_, fun hgt => ?_⟩
  · have hle := of_decide_eq_true hle
    have hm14 : m + 1 ≤ 15 := by omega
    have hp14 : 2 ^ (m + 1) ≤ 2 ^ 15 := Nat.pow_le_pow_right (by decide) hm14
    have hp2 : 2 ^ (m + 1) = 2 * 2 ^ m := Nat.pow_succ'
    have hcnt : ls.count (m + 1) ≤ ls.length := List.count_le_length
    have hfs : fin ls (m + 1) = 2 * fin ls m + ls.count (m + 1) := rfl
    have htn : ((m : Int) + 1).toNat = m + 1 := by omega
    have hss : (sorted ls (m + 1)).length = (sorted ls m).length + ls.count (m + 1) := by rw [sorted, List.length_append, syms_length]
    have hslm1 := hsl (m + 1)
    rw [htn]
    refine ⟨⟨by omega, by omega⟩, _, ht.cnt (by omega), ⟨by omega, by omega⟩, _, ht.cnt (by omega), ?_⟩
    have e1 : IntKind.i64.wrap (IntKind.i64.wrap (2 * ((2 ^ m - fin ls m : Nat) : Int)) - ((ls.count (m + 1) : Nat) : Int)) = (2 ^ (m + 1) : Nat) - (fin ls (m + 1) : Int) := by
      rw [wrap_i64 (x := 2 * _) (by omega) (by omega), wrap_i64 (by omega) (by omega)]; omega
    have e2 : IntKind.i64.wrap ((((sorted ls m).length : Nat) : Int) + ((ls.count (m + 1) : Nat) : Int)) = (((sorted ls (m + 1)).length : Nat) : Int) := by rw [wrap_i64 (by omega) (by omega)]; omega
    have e3 : IntKind.i64.wrap ((m : Int) + 1 + 1) = ((m + 1 : Nat) : Int) + 1 := by rw [wrap_i64 (by omega) (by omega)]; omega
    rw [e1, e2, e3]
    refine ⟨fun h => ?_, fun h => ?_⟩
    · have h := of_decide_eq_true h
      rw [over hm14 (by omega)]
      exact ⟨.inl ⟨by decide, rfl⟩, hf⟩
    have h := of_decide_eq_false h
    refine ⟨fun i w24 => ∃ (k : Nat) (l2 : Sl), k ≤ zs.length ∧ i = (k : Int) ∧ TabW w24 w.heap.size B l1 zs (fun n => ls.count n) (sorted ls m ++ symsTo ls (m + 1) k) l2 ∧ Fr (fun _ => False) w w24, fun i _ => ((zs.length : Int) - i).toNat,
      ⟨0, l2, Nat.zero_le _, rfl, by simpa [symsTo] using ht, hf⟩, ?_⟩
    rintro i w24 ⟨k, l2', hk, rfl, ht24, hf24⟩
    refine ⟨fun hlt => ?_, fun hge => ?_⟩
    · have hlt := of_decide_eq_true hlt
      have hkl : k < zs.length := by omega
      obtain ⟨x, hx, hcx⟩ := hat hf24 k _ (hivget hkl)
      have hgk := hget hkl
      have hmem : zs.getD k 0 ∈ zs := by rw [List.getD_eq_getElem?_getD, List.getElem?_eq_getElem hkl]; exact List.getElem_mem hkl
      have e4 : IntKind.i64.wrap ((k : Int) + 1) = ((k + 1 : Nat) : Int) := by rw [wrap_i64 (by omega) (by omega)]; omega
      have hsk := symsTo_succ ls (m + 1) k _ hgk
      refine ⟨⟨by omega, by omega⟩, x, hx, zs.getD k 0, by rw [Int.toNat_natCast, Nat.mul_one]; exact hcx, ?_⟩
      have hz0 := hz _ hmem
      generalize zs.getD k 0 = z at hsk hz0
      rw [e4]
      refine ⟨fun heq => ?_, fun hne => ?_⟩
      · have heq : z = (m : Int) + 1 := by simpa using heq
        rw [if_pos (by omega)] at hsk
        refine ⟨l2', ht24.c17, ?_⟩
        intro w28 hw28
        have hlenx : (sorted ls m ++ symsTo ls (m + 1) k).length ≤ 640 := by
          have : (symsTo ls (m + 1) k).length ≤ k := by simpa [symsTo] using List.length_filter_le (fun i => ls[i]? == some (m + 1)) (List.range k)
          rw [List.length_append]; omega
        obtain ⟨w29, l30, hr30, ho30, hf30⟩ := append_one elInt ht24.o2 (v := .int .i64 (k : Int)) rfl (by simp only [List.length_map, maxLen]; omega) (by simp only [List.length_map]; omega) (lt_blk ht24.blk) hw28
        have hX : ∀ k, (∃ y, l2'.a = some y ∧ k = y.block) → B + 1 ≤ k := fun k ⟨y, hy, e⟩ => by rw [e]; exact (ht24.o2.blk hy).1
        have hb29 := hf30.keep ht24.blk (fun h => by have := hX _ h; omega)
        refine ⟨w29, l30, hr30, wr_blk hb29 (by simp [tcells]), ?_⟩
        intro w31 hw31
        have hb31 := set_blk hb29 17 (.slice l30.a l30.len l30.cap)
        rw [← hw31] at hb31
        have hf31 : Fr (· = B) w29 w31 := hw31 ▸ Fr.set (· = B) _ (a := ⟨B, 17, none⟩) _ rfl
        refine ⟨⟨k + 1, l30, by omega, rfl, ⟨hloB, hb31, ?_, hb1, ?_⟩, (hf24.trans hf30 (fun q hq hh => by have := hX _ hh; omega)).trans hf31 (fun q hq hh => by omega)⟩, by dsimp only; omega⟩
        · exact (ht24.o1.keep hf30 (fun y hy hh => by have := hX _ hh; have := hb1 y hy; omega)).keep hf31 (fun y hy => by have := hb1 y hy; omega)
        · rw [hsk, ← List.append_assoc]
          have := ho30.keep hf31 (fun y hy => by have := (ho30.blk hy).1; omega)
          simpa [nv] using this
      · have hne : ¬ z = (m : Int) + 1 := by simpa using hne
        rw [if_neg (by omega), List.append_nil] at hsk
        rw [← hsk] at ht24
        exact ⟨⟨k + 1, l2', by omega, rfl, ht24, hf24⟩, by dsimp only; omega⟩
    · have hge := of_decide_eq_false hge
      have : k = zs.length := by omega
      subst this
      rw [← hls, symsTo_all] at ht24
      refine ⟨⟨m + 1, l2', hm14, rfl, by omega, by omega, rfl, ht24, hf24⟩, by dsimp only; omega⟩
  have hgt := of_decide_eq_false hgt
  have hm15 : m = 15 := by omega
  subst hm15
  have hzs : zs = ls.map Int.ofNat := by
    simp only [ls, List.map_map]
    rw [eq_comm]
    exact (List.map_congr_left (g := id) fun z hz' => by have := hz z hz'; simp only [Function.comp_apply, id]; exact Int.toNat_of_nonneg this.1).trans (List.map_id _)
  have good : (fin ls 15 = 32768 ∨ (sorted ls 15).length = 0 ∨ ((sorted ls 15).length = 1 ∧ ls.count 1 = 1)) → chk zs = 0 ∧ Tab w18 w.heap.size w18.heap.size B ls := fun h => by
    refine ⟨?_, ⟨by omega, h15⟩, h, by omega, l1, l2, by rw [← hzs]; exact ht, lt_blk ht.blk, fun x hx => (ht.o2.blk hx).2⟩
    unfold chk
    rw [if_neg (by omega), if_neg hno, if_neg]
    show ¬ (32768 < fin ls 15 ∨ (fin ls 15 < 32768 ∧ 0 < (sorted ls 15).length ∧ ¬ ((sorted ls 15).length = 1 ∧ ls.count 1 = 1)))
    omega
  have bad : fin ls 15 < 32768 → 0 < (sorted ls 15).length → ¬ ((sorted ls 15).length = 1 ∧ ls.count 1 = 1) → chk zs = 4 := fun h1 h2 h3 => by
    unfold chk
    rw [if_neg (by omega), if_neg hno, if_pos (.inr ⟨h1, h2, h3⟩)]
  refine ⟨fun hl => ?_, fun hl => ?_⟩
  · have hl := of_decide_eq_true hl
    refine ⟨fun hc => ?_, fun hc => ?_⟩
    · have hc := of_decide_eq_true hc
      refine ⟨fun h1 => ?_, fun h1 => ?_⟩
      · have h1 : (((sorted ls 15).length : Nat) : Int) = 1 := by simpa using h1
        refine ⟨⟨by decide, by decide⟩, _, ht.cnt (n := 1) (by decide), fun h2 => ?_, fun h2 => ?_⟩
        · have h2 : ¬ ls.count 1 = 1 := by intro h; rw [h] at h2; exact absurd h2 (by decide)
          rw [bad (by omega) (by omega) (by omega)]
          exact ⟨.inl ⟨by decide, rfl⟩, hf⟩
        · have h2 : ls.count 1 = 1 := by
            by_cases h : ls.count 1 = 1
            · exact h
            · exfalso
              have : (((ls.count 1 : Nat) : Int) == 1) = false := by simp; omega
              rw [this] at h2; exact absurd h2 (by decide)
          obtain ⟨g1, g2⟩ := good (by omega)
          exact ⟨.inr ⟨g1, B, rfl, g2⟩, hf⟩
      · have h1 : ¬ (((sorted ls 15).length : Nat) : Int) = 1 := by simpa using h1
        rw [bad (by omega) (by omega) (by omega)]
        exact ⟨.inl ⟨by decide, rfl⟩, hf⟩
    · have hc := of_decide_eq_false hc
      obtain ⟨g1, g2⟩ := good (by omega)
      exact ⟨.inr ⟨g1, B, rfl, g2⟩, hf⟩
  · have hl := of_decide_eq_false hl
    obtain ⟨g1, g2⟩ := good (by omega)
    exact ⟨.inr ⟨g1, B, rfl, g2⟩, hf⟩
end Go.Proofs.YtaaimcbicpgjoaaGreatDoor

/- What Code and Read of a table of codes do, for every table and reader in order. -/
set_option linter.unusedVariables false
namespace Go.Proofs.YtaaimcbicpgjoaaGreatDoor
open Go Vc BitsM HuffM Go.Proofs

/-- A symbol's code and length; nought, nought: it has none. -/
def cd (ls : List Nat) (x : Int) : Nat × Nat := if 0 ≤ x ∧ ls.getD x.toNat 0 ≠ 0 then (code ls x.toNat, ls.getD x.toNat 0) else (0, 0)
theorem nv_get {l : List Nat} {k x : Nat} (h : l[k]? = some x) : (nv l)[k]? = some (.int .i64 (x : Int)) := by simp [nv, h]
theorem iv_ofNat (ls : List Nat) : iv (ls.map Int.ofNat) = nv ls := by simp [iv, nv]
theorem sorted_mono (ls : List Nat) (n : Nat) : ∀ d, (sorted ls n).length ≤ (sorted ls (n + d)).length
  | 0 => Nat.le_refl _
  | d + 1 => by rw [← Nat.add_assoc, sorted, List.length_append]; have := sorted_mono ls n d; omega
theorem sorted_lt {ls : List Nat} {z m : Nat} (hz : z ∈ ls) (hm : m < z) (h15 : z ≤ 15) : (sorted ls m).length < (sorted ls 15).length := by
  have h1 := sorted_mono ls m (z - 1 - m)
  have h2 := sorted_mono ls z (15 - z)
  rw [show m + (z - 1 - m) = z - 1 by omega] at h1
  rw [show z + (15 - z) = 15 by omega] at h2
  obtain ⟨q, rfl⟩ : ∃ q, z = q + 1 := ⟨z - 1, by omega⟩
  have h3 : (sorted ls (q + 1)).length = (sorted ls q).length + ls.count (q + 1) := by rw [sorted, List.length_append, syms_length]
  have h4 : 0 < ls.count (q + 1) := List.count_pos_iff.2 hz
  rw [Nat.add_sub_cancel] at h1; omega
theorem sorted_more {ls : List Nat} {m : Nat} (h : (sorted ls m).length < (sorted ls 15).length) : ∃ z ∈ ls, m < z := by
  rw [sorted_length, sorted_length] at h
  apply Classical.byContradiction
  intro hno
  have : ls.countP (fun x => decide (1 ≤ x ∧ x ≤ 15)) ≤ ls.countP (fun x => decide (1 ≤ x ∧ x ≤ m)) := List.countP_mono_left fun x hx hp => by
    have : x ≤ m := Nat.le_of_not_lt fun hl => hno ⟨x, hx, hl⟩
    simp only [decide_eq_true_eq] at hp ⊢; omega
  omega

/-- What reading the bits B comes to: a symbol, or an error; how many bits are taken. -/
def Res (ls : List Nat) (B : List Bool) (x err n : Nat) : Prop :=
  (err = 0 ∧ HuffM.At ls B x n) ∨ (err = 6 ∧ x = 0 ∧ n = B.length ∧ n < 15 ∧ fin ls n ≤ hv B ∧ ∃ z ∈ ls, n < z) ∨ (err = 3 ∧ x = 0 ∧ n ≤ B.length ∧ n ≤ 15 ∧ fin ls n ≤ hv (B.take n) ∧ ∀ z ∈ ls, z ≤ n)
theorem Res.le {ls : List Nat} {B : List Bool} {x err n : Nat} (h : Res ls B x err n) : n ≤ B.length := by
  rcases h with ⟨_, h⟩ | ⟨_, _, h, _⟩ | ⟨_, _, h, _⟩
  · exact h.2.2.1
  · omega
  · exact h

theorem or_bit (c b : Nat) (hb : b ≤ 1) : (2 * c) ||| b = 2 * c + b := by
  have := Nat.two_pow_add_eq_or_of_lt (i := 1) (b := b) (by omega) c
  simpa using this.symm
theorem shl_or {c b : Nat} (hc : c < 32768) (hb : b ≤ 1) :
    IntKind.i64.wrap (↑((BitVec.ofInt 64 (IntKind.i64.wrap ((c : Int) * 2 ^ min (Int.toNat 1) 64)) ||| BitVec.ofInt 64 (IntKind.i64.wrap (b : Int))).toNat) : Int) = ((2 * c + b : Nat) : Int) := by
  have h2 : (2 : Int) ^ min (Int.toNat 1) 64 = 2 := rfl
  have e : ((c : Int) * 2) = ((2 * c : Nat) : Int) := by omega
  rw [h2, e, wrap_i64 (x := ((2 * c : Nat) : Int)) (by omega) (by omega), wrap_i64 (x := (b : Int)) (by omega) (by omega), or_nat 64 _ _ (by omega) (by omega), or_bit c b hb, wrap_i64 (by omega) (by omega)]

theorem hread_spec {w : World} {lo hi b rb : Nat} {ls : List Nat} (h : Tab w lo hi b ls) {s : ByteArray} {pos : Nat} {from_ : Int} (hr : Rd w rb s pos from_) (hrb : rb < lo ∨ hi ≤ rb) :
    Calls Tryz.prog F_huff_Table_Read #[.pointer (some ⟨b, 0, none⟩), .pointer (some ⟨rb, 0, none⟩)] w fun e w' =>
      ∃ x err n, e = .returned (.tuple #[.int .i64 ((x : Nat) : Int), .int .i64 ((err : Nat) : Int)]) ∧ Res ls ((sbits s.data.toList).drop pos) x err n ∧ Rd w' rb s (pos + n) from_ ∧ Fr (· = rb) w w' := by
  obtain ⟨l1, l2, ht, hb, hh⟩ := h.at_
  have hfits := h.fits
  have hls := h.small
  refine vc_huff_Table_Read_ok (R := fun v w' => ∃ x err n, v = .tuple #[.int .i64 ((x : Nat) : Int), .int .i64 ((err : Nat) : Int)] ∧ Res ls ((sbits s.data.toList).drop pos) x err n ∧ Rd w' rb s (pos + n) from_ ∧ Fr (· = rb) w w') ?_
    (fun v w' ⟨x, err, n, h⟩ => ⟨x, err, n, by rw [h.1], h.2⟩)
  have hlen2 : l2.len = (sorted ls 15).length := by rw [ht.o2.len, List.length_map]
  have hsl := sorted_le ls
  have hBlen : ((sbits s.data.toList).drop pos).length = left s pos := by
    rw [List.length_drop, sbits_length]; unfold left; simp
  generalize hBd : (sbits s.data.toList).drop pos = B at hBlen
  refine ⟨l2, ht.c17, fun h0 => ?_, fun h0 => ?_⟩
  · have h0 : l2.len = 0 := by have : (l2.len : Int) = 0 := by simpa using h0
                               omega
    refine ⟨0, 3, 0, rfl, .inr (.inr ⟨rfl, rfl, Nat.zero_le _, by decide, by simp [fin], fun z hz => ?_⟩), hr, .refl _ _⟩
    rcases Nat.eq_zero_or_pos z with h | h
    · omega
    · have := sorted_lt hz (m := z - 1) (by omega) (hfits.2 z hz); omega
  have h0 : ¬ l2.len = 0 := fun h => by simp [h] at h0
  refine ⟨fun cde first at_ n w' => ∃ m : Nat, n = (m : Int) + 1 ∧ m ≤ B.length ∧ m ≤ 15 ∧ cde = ((hv (B.take m) : Nat) : Int) ∧ first = ((2 * fin ls m : Nat) : Int) ∧ at_ = (((sorted ls m).length : Nat) : Int) ∧
      fin ls m ≤ hv (B.take m) ∧ (sorted ls m).length < (sorted ls 15).length ∧ Rd w' rb s (pos + m) from_ ∧ Fr (· = rb) w w', fun _ _ _ n _ => (17 - n).toNat,
    ⟨0, rfl, Nat.zero_le _, by decide, rfl, rfl, rfl, by simp [fin], (by show 0 < (sorted ls 15).length; omega), hr, .refl _ _⟩, ?_⟩
  rintro cde first at_ n w8 ⟨m, rfl, hmB, hm15, rfl, rfl, rfl, hge, hmore, hr8, hf8⟩
  have hm14 : m < 15 := by
    rcases Nat.lt_or_ge m 15 with h | h
    · exact h
    · have : m = 15 := by omega
      subst this; omega
  refine ⟨fun _ => ?_, fun hgt => absurd (of_decide_eq_false hgt) (by omega)⟩
  refine (rbits_spec hr8 (n := 1) (by decide)).mono ?_
  rintro e w10 ⟨rfl, hr10, hf10⟩
  have ht10 := ht.keep2 hb hh (hf8.trans' hf10) (fun k h1 h2 h3 => by omega)
  have hlp : left s (pos + m) = B.length - m := by rw [hBlen]; unfold left; omega
  refine ⟨_, _, rfl, fun hno => ?_, fun hyes => ?_⟩
  · have hno : ¬ 1 ≤ left s (pos + m) := by simpa using hno
    rw [if_neg hno] at hr10
    have hmB : m = B.length := by omega
    refine ⟨0, 6, m, rfl, .inr (.inl ⟨rfl, rfl, hmB, hm14, ?_, sorted_more hmore⟩), hr10, hf8.trans' hf10⟩
    subst hmB; rwa [List.take_length] at hge
  have hyes : 1 ≤ left s (pos + m) := by simpa using hyes
  rw [if_pos hyes] at hr10
  have hmlt : m < B.length := by omega
  have hbit : nbits s (pos + m) 1 = B[m].toNat := by
    rw [nbits_list, ← List.drop_drop, hBd, List.drop_eq_getElem_cons hmlt]
    cases B[m] <;> rfl
  have htk : B.take (m + 1) = B.take m ++ [B[m]] := List.take_succ_eq_append_getElem hmlt
  have hhv : hv (B.take (m + 1)) = 2 * hv (B.take m) + B[m].toNat := by rw [htk, hv_snoc]
  have hb1 : B[m].toNat ≤ 1 := Bool.toNat_le _
  have hvl := hv_lt (B.take m)
  have hp : 2 ^ (B.take m).length ≤ 2 ^ 14 := Nat.pow_le_pow_right (by decide) (by rw [List.length_take]; omega)
  have hfle : fin ls (m + 1) ≤ 32768 := by
    have := hfits.le (n := m + 1) (by omega)
    have : 2 ^ (m + 1) ≤ 2 ^ 15 := Nat.pow_le_pow_right (by decide) (by omega)
    omega
  have hfs : fin ls (m + 1) = 2 * fin ls m + ls.count (m + 1) := rfl
  have hss : (sorted ls (m + 1)).length = (sorted ls m).length + ls.count (m + 1) := by rw [sorted, List.length_append, syms_length]
  have hs1 := hsl (m + 1)
  have htn : ((m : Int) + 1).toNat = m + 1 := by omega
  rw [if_pos hyes, hbit, shl_or (by omega) hb1, ← hhv, htn]
  generalize hC : hv (B.take (m + 1)) = C at hhv
  have e1 : IntKind.i64.wrap ((C : Int) - ((2 * fin ls m : Nat) : Int)) = ((C - 2 * fin ls m : Nat) : Int) := by rw [wrap_i64 (by omega) (by omega)]; omega
  rw [e1]
  refine ⟨by decide, ⟨by omega, by omega⟩, _, ht10.cnt (by omega), fun hlt => ?_, fun hge2 => ?_⟩
  · have hlt := of_decide_eq_true hlt
    have hk' : C - 2 * fin ls m < (syms ls (m + 1)).length := by rw [syms_length]; omega
    have hsy := List.getElem?_eq_getElem hk'
    generalize (syms ls (m + 1))[C - 2 * fin ls m] = x at hsy
    obtain ⟨hs1', hs2⟩ := syms_code hsy
    have hso := sorted_get (by omega) hsy (15 - (m + 1))
    rw [show m + 1 + (15 - (m + 1)) = 15 by omega, Nat.add_sub_cancel] at hso
    obtain ⟨z, hz, hcz⟩ := ht10.o2.reads _ _ (nv_get hso)
    have hso15 := (List.getElem?_eq_some_iff.1 hso).1
    have hsz := hsl 15
    have e2 : IntKind.i64.wrap ((((sorted ls m).length : Nat) : Int) + ((C - 2 * fin ls m : Nat) : Int)) = (((sorted ls m).length + (C - 2 * fin ls m) : Nat) : Int) := by rw [wrap_i64 (by omega) (by omega)]; omega
    rw [e2]
    refine ⟨l2, ht10.c17, ⟨by omega, by omega⟩, z, hz, _, by rw [Int.toNat_natCast, Nat.mul_one]; exact hcz, x, 0, m + 1, rfl, .inl ⟨rfl, hs1', by omega, by omega, ?_⟩, hr10, hf8.trans' hf10⟩
    rw [hC, hs2, Nat.add_sub_cancel]; omega
  · have hge2 := of_decide_eq_false hge2
    have e2 : IntKind.i64.wrap ((((sorted ls m).length : Nat) : Int) + ((ls.count (m + 1) : Nat) : Int)) = (((sorted ls (m + 1)).length : Nat) : Int) := by rw [wrap_i64 (by omega) (by omega)]; omega
    have h2 : (2 : Int) ^ min (Int.toNat 1) 64 = 2 := rfl
    have e3 : IntKind.i64.wrap (IntKind.i64.wrap (((2 * fin ls m : Nat) : Int) + ((ls.count (m + 1) : Nat) : Int)) * 2 ^ min (Int.toNat 1) 64) = ((2 * fin ls (m + 1) : Nat) : Int) := by
      rw [h2, wrap_i64 (x := _ + _) (by omega) (by omega), wrap_i64 (by omega) (by omega)]; omega
    have e4 : IntKind.i64.wrap ((m : Int) + 1 + 1) = ((m + 1 : Nat) : Int) + 1 := by rw [wrap_i64 (by omega) (by omega)]; omega
    have hge' : fin ls (m + 1) ≤ hv (B.take (m + 1)) := by rw [hC]; omega
    refine ⟨⟨by omega, by omega⟩, _, ht10.cnt (by omega), ⟨by omega, by omega⟩, _, ht10.cnt (by omega), by decide, l2, ht10.c17, ?_⟩
    rw [e2, e3, e4]
    refine ⟨fun heq => ?_, fun hne => ?_⟩
    · have heq : (((sorted ls (m + 1)).length : Nat) : Int) = (l2.len : Int) := by simpa using heq
      refine ⟨0, 3, m + 1, rfl, .inr (.inr ⟨rfl, rfl, by omega, by omega, hge', fun z hz => ?_⟩), hr10, hf8.trans' hf10⟩
      rcases Nat.lt_or_ge (m + 1) z with h | h
      · have := sorted_lt hz h (hfits.2 z hz); omega
      · exact h
    · have hne : ¬ (((sorted ls (m + 1)).length : Nat) : Int) = (l2.len : Int) := by simpa using hne
      have hmono := sorted_mono ls (m + 1) (15 - (m + 1))
      rw [show m + 1 + (15 - (m + 1)) = 15 by omega] at hmono
      exact ⟨⟨m + 1, rfl, by omega, by omega, by rw [hC], rfl, rfl, hge', by omega, hr10, hf8.trans' hf10⟩, by dsimp only; omega⟩
end Go.Proofs.YtaaimcbicpgjoaaGreatDoor

/- Plain facts on bits put into bytes. -/
set_option linter.unusedVariables false
namespace BitsM
open Vc
/-- Byte number i of a list of bits. -/
def byteOf (l : List Bool) (i : Nat) : UInt8 := UInt8.ofNat (num ((l.drop (8 * i)).take 8))
theorem byteOf_nat (l : List Bool) (i : Nat) : (byteOf l i).toNat = num ((l.drop (8 * i)).take 8) := by
  unfold byteOf
  have h := num_lt ((l.drop (8 * i)).take 8)
  have : 2 ^ ((l.drop (8 * i)).take 8).length ≤ 2 ^ 8 := Nat.pow_le_pow_right (by decide) (List.length_take_le _ _)
  rw [UInt8.toNat_ofNat_of_lt']
  exact Nat.lt_of_lt_of_le h this
/-- The first k bytes. -/
def bytesOf (l : List Bool) (k : Nat) : List UInt8 := (List.range k).map (byteOf l)
theorem bytesOf_length (l : List Bool) (k : Nat) : (bytesOf l k).length = k := by simp [bytesOf]
theorem bytesOf_succ (l : List Bool) (k : Nat) : bytesOf l (k + 1) = bytesOf l k ++ [byteOf l k] := by simp [bytesOf, List.range_succ]
theorem byteOf_append (l r : List Bool) (i : Nat) (h : 8 * (i + 1) ≤ l.length) : byteOf (l ++ r) i = byteOf l i := by
  unfold byteOf
  rw [List.drop_append_of_le_length (by omega), List.take_append_of_le_length (by rw [List.length_drop]; omega)]
theorem bytesOf_append (l r : List Bool) (k : Nat) (h : 8 * k ≤ l.length) : bytesOf (l ++ r) k = bytesOf l k := by
  unfold bytesOf
  apply List.map_congr_left
  intro i hi
  have := List.mem_range.1 hi
  exact byteOf_append l r i (by omega)
/-- All the bytes, the last one filled with noughts. -/
def textOf (l : List Bool) : List UInt8 := bytesOf l ((l.length + 7) / 8)
theorem textOf_length (l : List Bool) : (textOf l).length = (l.length + 7) / 8 := bytesOf_length _ _
/-- The bits of the bytes are the bits, and noughts. -/
def fill8 (l : List Bool) : List Bool := l ++ List.replicate (8 * ((l.length + 7) / 8) - l.length) false
theorem num_replicate : ∀ n, num (List.replicate n false) = 0
  | 0 => rfl
  | n + 1 => by simp [List.replicate_succ, num, num_replicate n]
theorem byteOf_fill (l : List Bool) (i : Nat) : byteOf (fill8 l) i = byteOf l i := by
  have : num (((fill8 l).drop (8 * i)).take 8) = num ((l.drop (8 * i)).take 8) := by
    rw [num_take, num_take, num_drop, num_drop]
    unfold fill8
    rw [num_append, num_replicate]; simp
  unfold byteOf; rw [this]
theorem lowB_num : ∀ (l : List Bool), lowB l.length (num l) = l
  | [] => rfl
  | b :: r => by
    simp only [List.length_cons, lowB, num]
    have h1 : (b.toNat + 2 * num r) % 2 = b.toNat := by have := Bool.toNat_le b; omega
    have h2 : (b.toNat + 2 * num r) / 2 = num r := by have := Bool.toNat_le b; omega
    rw [h1, h2, lowB_num r]
    cases b <;> rfl
theorem sbits_bytesOf (l : List Bool) : ∀ k, 8 * k ≤ l.length → sbits (bytesOf l k) = l.take (8 * k)
  | 0, _ => rfl
  | k + 1, h => by
    rw [bytesOf_succ, sbits_append, sbits_bytesOf l k (by omega)]
    simp only [sbits, List.append_nil, byteOf_nat]
    have hl : ((l.drop (8 * k)).take 8).length = 8 := by simp; omega
    have := lowB_num ((l.drop (8 * k)).take 8)
    rw [hl] at this
    rw [this, show 8 * (k + 1) = 8 * k + 8 by omega, List.take_add]
theorem sbits_textOf (l : List Bool) : sbits (textOf l) = fill8 l := by
  have hl : (fill8 l).length = 8 * ((l.length + 7) / 8) := by unfold fill8; simp; omega
  have h1 : textOf l = bytesOf (fill8 l) ((l.length + 7) / 8) := by
    unfold textOf bytesOf
    apply List.map_congr_left
    intro i _
    exact (byteOf_fill l i).symm
  rw [h1, sbits_bytesOf _ _ (by omega), ← hl, List.take_length]
theorem textOf_false (l : List Bool) : textOf (l ++ [false]) = if l.length % 8 = 0 then textOf l ++ [0] else textOf l := by
  have hb : ∀ i, byteOf (l ++ [false]) i = byteOf l i := fun i => by
    have : num (((l ++ [false]).drop (8 * i)).take 8) = num ((l.drop (8 * i)).take 8) := by
      rw [num_take, num_take, num_drop, num_drop, num_append]; simp [num]
    unfold byteOf; rw [this]
  have hm : ∀ k, bytesOf (l ++ [false]) k = bytesOf l k := fun k => by
    unfold bytesOf; exact List.map_congr_left fun i _ => hb i
  unfold textOf
  rw [hm, List.length_append, List.length_singleton]
  split
  · rename_i h
    rw [show (l.length + 1 + 7) / 8 = (l.length + 7) / 8 + 1 by omega, bytesOf_succ]
    have : byteOf l ((l.length + 7) / 8) = 0 := by
      unfold byteOf
      rw [List.drop_eq_nil_of_le (by omega)]; rfl
    rw [this]
  · rename_i h
    rw [show (l.length + 1 + 7) / 8 = (l.length + 7) / 8 by omega]
theorem textOf_true (l : List Bool) : ∃ x : UInt8, (textOf (l ++ [false]))[l.length / 8]? = some x ∧ x.toNat + 2 ^ (l.length % 8) < 256 ∧
    textOf (l ++ [true]) = (textOf (l ++ [false])).set (l.length / 8) (UInt8.ofNat (x.toNat + 2 ^ (l.length % 8))) := by
  have h1 : ∀ b, num (((l ++ [b]).drop (8 * (l.length / 8))).take 8) = num (l.drop (8 * (l.length / 8))) + 2 ^ (l.length % 8) * b.toNat := fun b => by
    rw [List.take_of_length_le (by simp; omega), List.drop_append_of_le_length (by omega), num_append, List.length_drop]
    rw [show l.length - 8 * (l.length / 8) = l.length % 8 by omega]; simp [num]
  have hlt := num_lt (l.drop (8 * (l.length / 8)))
  rw [List.length_drop, show l.length - 8 * (l.length / 8) = l.length % 8 by omega] at hlt
  have hp : 2 ^ (l.length % 8) ≤ 2 ^ 7 := Nat.pow_le_pow_right (by decide) (by omega)
  have hf := byteOf_nat (l ++ [false]) (l.length / 8)
  have ht := byteOf_nat (l ++ [true]) (l.length / 8)
  rw [h1] at hf ht
  simp only [Bool.toNat_false, Bool.toNat_true, Nat.mul_zero, Nat.add_zero, Nat.mul_one] at hf ht
  refine ⟨byteOf (l ++ [false]) (l.length / 8), ?_, by omega, ?_⟩
  · unfold textOf bytesOf
    rw [List.getElem?_map, List.getElem?_range (by simp; omega)]; rfl
  · apply List.ext_getElem?
    intro i
    rw [List.getElem?_set, textOf_length]
    have hlen : ((l ++ [false]).length + 7) / 8 = l.length / 8 + 1 := by simp; omega
    have hlen2 : ((l ++ [true]).length + 7) / 8 = l.length / 8 + 1 := by simp; omega
    unfold textOf bytesOf
    rw [hlen, hlen2]
    by_cases hi : l.length / 8 = i
    · subst hi
      rw [if_pos rfl, if_pos (by omega), List.getElem?_map, List.getElem?_range (by omega)]
      simp only [Option.map_some, Option.some.injEq]
      apply UInt8.toNat_inj.1
      rw [ht, hf, UInt8.toNat_ofNat_of_lt' (by show _ < 256; omega)]
    · rw [if_neg hi, List.getElem?_map, List.getElem?_map]
      by_cases hlt : i < l.length / 8 + 1
      · rw [List.getElem?_range hlt]
        simp only [Option.map_some]
        rw [byteOf_append l [true] i (by omega), byteOf_append l [false] i (by omega)]
      · simp [List.getElem?_eq_none (show (List.range (l.length / 8 + 1)).length ≤ i by simp; omega)]
theorem textOf_sbits (m : List UInt8) : textOf (sbits m) = m := by
  apply List.ext_getElem?
  intro i
  unfold textOf bytesOf
  rw [sbits_length, show (8 * m.length + 7) / 8 = m.length by omega, List.getElem?_map]
  by_cases hi : i < m.length
  · rw [List.getElem?_range hi, List.getElem?_eq_getElem hi]
    simp only [Option.map_some, Option.some.injEq]
    apply UInt8.toNat_inj.1
    rw [byteOf_nat, ← sbits_drop, List.drop_eq_getElem_cons hi]
    have := (m[i]).toNat_lt
    simp only [sbits]
    rw [List.take_append_of_le_length (by rw [lowB_length]; omega), List.take_of_length_le (by rw [lowB_length]; omega), num_lowB, Nat.mod_eq_of_lt (by omega)]
  · rw [List.getElem?_eq_none (by simp; omega), List.getElem?_eq_none (by omega)]; rfl
theorem lowB_zero : ∀ n, lowB n 0 = List.replicate n false
  | 0 => rfl
  | n + 1 => by simp [lowB, lowB_zero n, List.replicate_succ]
theorem fill8_length (l : List Bool) : (fill8 l).length = 8 * ((l.length + 7) / 8) := by unfold fill8; simp; omega
theorem fill8_lowB (l : List Bool) (h : l.length % 8 ≠ 0) : l ++ lowB (8 - l.length % 8) 0 = fill8 l := by
  unfold fill8
  rw [lowB_zero, show 8 * ((l.length + 7) / 8) - l.length = 8 - l.length % 8 by omega]
theorem fill8_whole (l : List Bool) (h : l.length % 8 = 0) : fill8 l = l := by
  unfold fill8
  rw [show 8 * ((l.length + 7) / 8) - l.length = 0 by omega]; simp
theorem bytesOf_sbits (L : List Bool) (q : Nat) (hq : L.length = 8 * q) (s : List UInt8) : ∀ j, j ≤ s.length → bytesOf (L ++ sbits s) (q + j) = bytesOf L q ++ s.take j
  | 0, _ => by rw [Nat.add_zero, bytesOf_append _ _ _ (by omega)]; simp
  | j + 1, h => by
    rw [← Nat.add_assoc, bytesOf_succ, bytesOf_sbits L q hq s j (by omega), List.take_succ_eq_append_getElem (by omega), List.append_assoc]
    congr 2
    have h1 : byteOf (L ++ sbits s) (q + j) = byteOf (sbits s) j := by
      unfold byteOf
      rw [show 8 * (q + j) = L.length + 8 * j by omega, ← List.drop_drop, List.drop_left]
    have h2 := congrArg (fun l => l[j]?) (textOf_sbits s)
    simp only [textOf, bytesOf, sbits_length] at h2
    rw [show (8 * s.length + 7) / 8 = s.length by omega, List.getElem?_map, List.getElem?_range (by omega), List.getElem?_eq_getElem (by omega)] at h2
    simp only [Option.map_some, Option.some.injEq] at h2
    rw [h1, h2]
end BitsM

/- Plain facts: what the reference's reading comes to is what the table's reading comes to. -/
set_option linter.unusedVariables false
namespace HuffM
open BitsM Go.Proofs.YtaaimcbicpgjoaaGreatDoor
theorem fin_append (l r : List Nat) : ∀ m, fin (l ++ r) m = fin l m + fin r m
  | 0 => rfl
  | m + 1 => by simp only [fin, fin_append l r m, List.count_append]; omega
theorem num_inj : ∀ {l r : List Bool}, l.length = r.length → num l = num r → l = r
  | [], [], _, _ => rfl
  | a :: l, b :: r, hl, hn => by
    simp only [num] at hn
    have ha := Bool.toNat_le a
    have hb := Bool.toNat_le b
    have h1 : a.toNat = b.toNat := by omega
    have h2 : num l = num r := by omega
    rw [num_inj (by simpa using hl) h2]
    congr 1
    cases a <;> cases b <;> simp_all
theorem hv_inj {l r : List Bool} (hl : l.length = r.length) (h : hv l = hv r) : l = r := by
  have := num_inj (l := l.reverse) (r := r.reverse) (by simpa using hl) h
  exact List.reverse_inj.1 this
theorem cbits_prefix {ls : List Nat} (hf : Fits ls) {s n : Nat} (h : ls[s]? = some n) (h1 : 1 ≤ n) (B : List Bool) : cbits ls s <+: B ↔ At ls B s n := by
  have hl : (cbits ls s).length = n := by rw [cbits_length, getD_of h]
  constructor
  · intro hp
    have hle := hp.length_le
    refine ⟨h, h1, by omega, ?_⟩
    have := List.prefix_iff_eq_take.1 hp
    rw [hl] at this
    rw [← this, hv_cbits hf h h1]
  · rintro ⟨_, _, h2, h3⟩
    rw [List.prefix_iff_eq_take, hl]
    exact hv_inj (by rw [hl, List.length_take]; omega) (by rw [h3, hv_cbits hf h h1])
/-- What the reference's reading comes to. -/
def RefRes (ls : List Nat) (B : List Bool) (y n err : Nat) : Prop :=
  (err = 0 ∧ At ls B y n) ∨ (err = 6 ∧ y = 0 ∧ n = 0 ∧ (∀ s m, ¬ At ls B s m) ∧ ∃ s, B.length < (cbits ls s).length ∧ B <+: cbits ls s) ∨
  (err = 3 ∧ y = 0 ∧ n = 0 ∧ (∀ s m, ¬ At ls B s m) ∧ ∀ s, s < ls.length → B.length < (cbits ls s).length → ¬ B <+: cbits ls s)
/-- Without a gap, or without codes, or the one code 0. -/
def Gap (ls : List Nat) : Prop := Full ls ∨ (sorted ls 15).length = 0 ∨ ((sorted ls 15).length = 1 ∧ ls.count 1 = 1)
theorem no_at {ls : List Nat} {B : List Bool} {n : Nat} (hn : n ≤ B.length) (h : fin ls n ≤ hv (B.take n)) {s m : Nat} (hm : m ≤ n) : ¬ At ls B s m := by
  intro ha
  have h1 := hv_take B hm hn
  rw [ha.2.2.2] at h1
  have h2 := code_lt ha.1 ha.2.1
  have h3 := fin_double ls m (n - m)
  rw [show m + (n - m) = n by omega] at h3
  have h4 : fin ls m ≤ hv (B.take n) / 2 ^ (n - m) := by rw [Nat.le_div_iff_mul_le (Nat.two_pow_pos _), Nat.mul_comm]; omega
  omega
theorem res_ref {ls : List Nat} (hf : Fits ls) (hg : Gap ls) {B : List Bool} {x err n y m err' : Nat} (h : Res ls B x err n) (h' : RefRes ls B y m err') : x = y ∧ err = err' ∧ (err = 0 → n = m) := by
  rcases h with ⟨rfl, ha⟩ | ⟨rfl, rfl, hn, h15, hge, hz⟩ | ⟨rfl, rfl, hn, h15, hge, hz⟩
  · rcases h' with ⟨rfl, hb⟩ | ⟨_, _, _, hno, _⟩ | ⟨_, _, _, hno, _⟩
    · obtain ⟨h1, h2⟩ := ha.one hb; exact ⟨h1, rfl, fun _ => h2⟩
    · exact absurd ha (hno _ _)
    · exact absurd ha (hno _ _)
  · subst hn
    have hex : ∃ s, s < ls.length ∧ B.length < (cbits ls s).length ∧ B <+: cbits ls s := by
      rcases hg with hfull | h0 | ⟨h1, h2⟩
      · obtain ⟨s, m, hs, hm, hm15, hc⟩ := full_ext hfull (by omega) hge (hv_lt B)
        have hl : (cbits ls s).length = m := by rw [cbits_length, getD_of hs]
        refine ⟨s, (List.getElem?_eq_some_iff.1 hs).1, by omega, ?_⟩
        rw [List.prefix_iff_eq_take]
        refine hv_inj (by rw [List.length_take]; omega) ?_
        rw [hv_take _ (n := m) (by omega) (by omega), List.take_of_length_le (by omega), hv_cbits hf hs (by omega), hc]
      · obtain ⟨z, hm, hlt⟩ := hz
        have := sorted_lt hm hlt (hf.2 z hm); omega
      · obtain ⟨z, hm, hlt⟩ := hz
        have hz1 : z ≤ 1 := by
          rcases Nat.lt_or_ge 1 z with h | h
          · have h3 := sorted_lt hm h (hf.2 z hm)
            have h4 : (sorted ls 1).length = 0 + ls.count 1 := by rw [sorted, List.length_append, syms_length]; rfl
            omega
          · exact h
        have hB : B = [] := List.eq_nil_of_length_eq_zero (by omega)
        obtain ⟨s, hs, hsz⟩ := List.getElem_of_mem hm
        have hs? : ls[s]? = some z := by rw [List.getElem?_eq_getElem hs, hsz]
        refine ⟨s, hs, by rw [cbits_length, getD_of hs?]; omega, ?_⟩
        rw [hB]; exact List.nil_prefix
    rcases h' with ⟨rfl, hb⟩ | ⟨rfl, rfl, _, _, _⟩ | ⟨_, _, _, _, hno⟩
    · exact absurd hb (no_at (Nat.le_refl _) (by rwa [List.take_length]) hb.2.2.1)
    · exact ⟨rfl, rfl, fun h => by cases h⟩
    · obtain ⟨s, h1, h2, h3⟩ := hex
      exact absurd h3 (hno s h1 h2)
  · rcases h' with ⟨rfl, hb⟩ | ⟨rfl, rfl, _, _, s, h1, h2⟩ | ⟨rfl, rfl, _, _, _⟩
    · exact absurd hb (no_at hn hge (hz _ (List.mem_of_getElem? hb.1)))
    · exfalso
      rw [cbits_length] at h1
      have : ls.getD s 0 ≤ n := by
        rw [List.getD_eq_getElem?_getD]
        cases hs : ls[s]? with
        | none => exact Nat.zero_le _
        | some q => exact hz q (List.mem_of_getElem? hs)
      omega
    · exact ⟨rfl, rfl, fun h => by cases h⟩
theorem lowB_snoc : ∀ (n x : Nat), lowB (n + 1) x = lowB n x ++ [x.testBit n]
  | 0, x => by simp [lowB, Nat.testBit_zero]; rfl
  | n + 1, x => by rw [lowB, lowB_snoc n (x / 2), lowB, List.cons_append, Nat.testBit_succ]
end HuffM

/- Inflating, on lists of bits. -/
set_option linter.unusedVariables false
namespace InfM
open BitsM HuffM Go.Proofs.YtaaimcbicpgjoaaGreatDoor
/-- An error's number, or a value and the place behind it. -/
abbrev E (α : Type) := Except Nat (α × Nat)
/-- The next n bits. -/
def take (B : List Bool) (n p : Nat) : E Nat := if p + n ≤ B.length then .ok (num ((B.drop p).take n), p + n) else .error 6
/-- A longer code begins with these bits. -/
def Longer (ls : List Nat) (b : List Bool) : Prop := ∃ s, s < ls.length ∧ b.length < (cbits ls s).length ∧ b <+: cbits ls s
open Classical in
/-- The symbol whose code comes next. -/
noncomputable def sym (ls : List Nat) (B : List Bool) (p : Nat) : E Nat :=
  if h : ∃ x : Nat × Nat, HuffM.At ls (B.drop p) x.1 x.2 then .ok (h.choose.1, p + h.choose.2)
  else if Longer ls (B.drop p) then .error 6 else .error 3
theorem sym_at {ls : List Nat} {B : List Bool} {p s n : Nat} (h : HuffM.At ls (B.drop p) s n) : sym ls B p = .ok (s, p + n) := by
  have hx : ∃ x : Nat × Nat, HuffM.At ls (B.drop p) x.1 x.2 := ⟨(s, n), h⟩
  unfold sym
  rw [dif_pos hx]
  obtain ⟨h1, h2⟩ := hx.choose_spec.one h
  rw [h1, h2]
theorem ref_longer {ls : List Nat} (hf : Fits ls) (hg : Gap ls) {b : List Bool} {x err n : Nat} (h : Res ls b x err n) : (err = 0 ∧ HuffM.At ls b x n) ∨ (err = 6 ∧ x = 0 ∧ (∀ s m, ¬ HuffM.At ls b s m) ∧ Longer ls b) ∨ (err = 3 ∧ x = 0 ∧ (∀ s m, ¬ HuffM.At ls b s m) ∧ ¬ Longer ls b) := by
  by_cases h0 : err = 0
  · rcases h with h | ⟨h, _⟩ | ⟨h, _⟩
    · exact .inl h
    · omega
    · omega
  · have hno : ∀ s m, ¬ HuffM.At ls b s m := by
      intro s m ha
      rcases h with ⟨h, _⟩ | ⟨_, _, hn, _, hge, _⟩ | ⟨_, _, hn, _, hge, hz⟩
      · exact h0 h
      · subst hn; exact no_at (Nat.le_refl _) (by rwa [List.take_length]) ha.2.2.1 ha
      · exact no_at hn hge (hz _ (List.mem_of_getElem? ha.1)) ha
    rcases Classical.em (Longer ls b) with hl | hl
    · have href : RefRes ls b 0 0 6 := .inr (.inl ⟨rfl, rfl, rfl, hno, hl.imp fun _ h => h.2⟩)
      obtain ⟨h1, h2, _⟩ := res_ref hf hg h href
      exact .inr (.inl ⟨h2, h1, hno, hl⟩)
    · have href : RefRes ls b 0 0 3 := .inr (.inr ⟨rfl, rfl, rfl, hno, fun s h1 h2 h3 => hl ⟨s, h1, h2, h3⟩⟩)
      obtain ⟨h1, h2, _⟩ := res_ref hf hg h href
      exact .inr (.inr ⟨h2, h1, hno, hl⟩)
/-- What the table's reading comes to, as a function. -/
theorem sym_res {ls : List Nat} (hf : Fits ls) (hg : Gap ls) {B : List Bool} {p x err n : Nat} (h : Res ls (B.drop p) x err n) :
    (err = 0 ∧ sym ls B p = .ok (x, p + n) ∧ 1 ≤ n ∧ n ≤ (B.drop p).length ∧ x < ls.length) ∨ ((err = 6 ∨ err = 3) ∧ x = 0 ∧ sym ls B p = .error err) := by
  rcases ref_longer hf hg h with ⟨h1, h2⟩ | ⟨h1, h2, h3, h4⟩ | ⟨h1, h2, h3, h4⟩
  · exact .inl ⟨h1, sym_at h2, h2.2.1, h2.2.2.1, (List.getElem?_eq_some_iff.1 h2.1).1⟩
  · refine .inr ⟨.inl h1, h2, ?_⟩
    unfold sym
    rw [dif_neg (fun ⟨x, hx⟩ => h3 _ _ hx), if_pos h4, h1]
  · refine .inr ⟨.inr h1, h2, ?_⟩
    unfold sym
    rw [dif_neg (fun ⟨x, hx⟩ => h3 _ _ hx), if_neg h4, h1]

/-- Bytes out of bits. -/
def bytesAt (B : List Bool) (n p : Nat) : List UInt8 := (List.range n).map fun i => UInt8.ofNat (num ((B.drop (p + 8 * i)).take 8))
/-- A stored block. -/
def stored (most : Nat) (B : List Bool) (p0 : Nat) (out : List UInt8) : E (List UInt8) :=
  let p := (p0 + 7) / 8 * 8
  if p + 32 ≤ B.length then
    let n := num ((B.drop p).take 16)
    if n + num ((B.drop (p + 16)).take 16) ≠ 65535 then .error 3
    else if p + 32 + 8 * n ≤ B.length then
      if most < out.length + n then .error 2 else .ok (out ++ bytesAt B n (p + 32), p + 32 + 8 * n)
    else if most < out.length + (B.length - (p + 32)) / 8 then .error 2 else .error 6
  else .error 6
/-- The lengths of a dynamic block's codes. -/
noncomputable def clens (cl : List Nat) (tot : Nat) (B : List Bool) : Nat → Nat → List Nat → E (List Nat)
  | 0, _, _ => .error 99
  | f + 1, p, l =>
    if tot ≤ l.length then .ok (l, p)
    else match sym cl B p with
      | .error e => .error e
      | .ok (s, p) =>
        if s < 16 then clens cl tot B f p (l ++ [s])
        else if s = 16 ∧ l = [] then .error 3
        else match take B (if s = 16 then 2 else if s = 17 then 3 else 7) p with
          | .error e => .error e
          | .ok (n, p) =>
            let k := (if s = 16 ∨ s = 17 then 3 else 11) + n
            if tot < l.length + k then .error 3 else clens cl tot B f p (l ++ List.replicate k (if s = 16 then l.getLastD 0 else 0))
def places : List Nat := [16, 17, 18, 0, 8, 7, 9, 6, 10, 5, 11, 4, 12, 3, 13, 2, 14, 1, 15]
/-- The lengths of the codes of lengths: those in these places. -/
def firsts (B : List Bool) : List Nat → Nat → List Nat → E (List Nat)
  | [], p, l => .ok (l, p)
  | i :: r, p, l => match take B 3 p with
    | .error e => .error e
    | .ok (n, p) => firsts B r p (l.set i n)
def chkN (ls : List Nat) : Nat := chk (ls.map Int.ofNat)
noncomputable def tables (B : List Bool) (p : Nat) : E (List Nat × List Nat) :=
  match take B 14 p with
  | .error e => .error e
  | .ok (h, p) =>
    let nl := h % 32 + 257
    let nd := h / 32 % 32 + 1
    let nc := h / 1024 + 4
    if 286 < nl ∨ 30 < nd then .error 3
    else match firsts B (places.take nc) p (List.replicate 19 0) with
      | .error e => .error e
      | .ok (first, p) =>
        if chkN first ≠ 0 then .error 3
        else match clens first (nl + nd) B (nl + nd + 1) p [] with
          | .error e => .error e
          | .ok (l, p) => if l.getD 256 0 = 0 ∨ chkN (l.take nl) ≠ 0 ∨ chkN (l.drop nl) ≠ 0 then .error 3 else .ok ((l.take nl, l.drop nl), p)
def lenBase (i : Nat) : Nat × Nat := if i = 28 then (258, 0) else if i < 8 then (3 + i, 0) else (3 + (4 + i % 4) * 2 ^ (i / 4 - 1), i / 4 - 1)
def distBase (i : Nat) : Nat × Nat := if i < 4 then (1 + i, 0) else (1 + (2 + i % 2) * 2 ^ (i / 2 - 1), i / 2 - 1)
/-- n bytes from so far back. -/
def copy (back : Nat) : Nat → List UInt8 → List UInt8
  | 0, out => out
  | n + 1, out => copy back n (out ++ [out.getD (out.length - back) 0])
noncomputable def rep (dist : List Nat) (most : Nat) (B : List Bool) (s p : Nat) (out : List UInt8) : E (List UInt8) :=
  if 285 < s then .error 3
  else match take B (lenBase (s - 257)).2 p with
    | .error e => .error e
    | .ok (more, p) => match sym dist B p with
      | .error e => .error e
      | .ok (d, p) =>
        if 29 < d then .error 3
        else match take B (distBase d).2 p with
          | .error e => .error e
          | .ok (far, p) =>
            let n := (lenBase (s - 257)).1 + more
            let back := (distBase d).1 + far
            if out.length < back then .error 3
            else if most < out.length + n then .error 2 else .ok (copy back n out, p)
noncomputable def packed (lit dist : List Nat) (most : Nat) (B : List Bool) : Nat → Nat → List UInt8 → E (List UInt8)
  | 0, _, _ => .error 99
  | f + 1, p, out => match sym lit B p with
    | .error e => .error e
    | .ok (s, p) =>
      if s = 256 then .ok (out, p)
      else if s < 256 then if out.length = most then .error 2 else packed lit dist most B f p (out ++ [UInt8.ofNat s])
      else match rep dist most B s p out with
        | .error e => .error e
        | .ok (out, p) => packed lit dist most B f p out
def fixedLit : List Nat := List.replicate 144 8 ++ List.replicate 112 9 ++ List.replicate 24 7 ++ List.replicate 8 8
def fixedDist : List Nat := List.replicate 32 5
noncomputable def block (most : Nat) (B : List Bool) (kind p : Nat) (out : List UInt8) : E (List UInt8) :=
  if kind = 0 then stored most B p out
  else if kind = 1 then packed fixedLit fixedDist most B (B.length + 1) p out
  else if kind = 2 then match tables B p with
    | .error e => .error e
    | .ok ((lit, dist), p) => packed lit dist most B (B.length + 1) p out
  else .error 3
noncomputable def blocks (most : Nat) (B : List Bool) : Nat → Nat → List UInt8 → E (List UInt8)
  | 0, _, _ => .error 99
  | f + 1, p, out => match take B 3 p with
    | .error e => .error e
    | .ok (h, p) => match block most B (h / 2) p out with
      | .error e => .error e
      | .ok (out, p) => if h % 2 = 1 then .ok (out, p) else blocks most B f p out
/-- What the bits say, within so many bytes. -/
noncomputable def inf (most : Nat) (B : List Bool) : E (List UInt8) := blocks most B (B.length + 1) 0 []
/-- .. of a text from a place on: what comes out, how many bytes are taken, the error's number. -/
noncomputable def inflate (s : List UInt8) (at_ most : Int) : List UInt8 × Nat × Nat :=
  if at_ < 0 ∨ (s.length : Int) < at_ ∨ most < 0 ∨ 65536 < most then ([], 0, 1)
  else match inf most.toNat (sbits (s.drop at_.toNat)) with
    | .error e => ([], 0, e)
    | .ok (out, p) => (out, (p + 7) / 8, 0)
end InfM

/- The bit reader's other methods, and those above for any number of bits. Conditions as there. -/
set_option linter.unusedVariables false
namespace Go.Proofs.YtaaimcbicpgjoaaGreatDoor
open Go Vc BitsM Go.Proofs

/-- From 0 to 32. -/
def can (n : Int) : Bool := decide (0 ≤ n ∧ n ≤ 32)
theorem can_true {n : Int} (h : can n = true) : ∃ m : Nat, n = (m : Int) ∧ m ≤ 32 := by
  have h := of_decide_eq_true h; exact ⟨n.toNat, by omega, by omega⟩
theorem can_false {n : Int} (h : can n = false) : n < 0 ∨ 32 < n := by
  have h := of_decide_eq_false h; omega

theorem peek_bad {b : Nat} {w : World} {n : Int} (hn : can n = false) :
    Calls Tryz.prog F_bitin_Reader_Peek #[.pointer (some ⟨b, 0, none⟩), .int .i64 n] w fun e w' => e = .returned (.tuple #[.int .u32 0, .int .i64 0]) ∧ w' = w := by
  refine vc_bitin_Reader_Peek_ok (R := fun v w' => v = .tuple #[.int .u32 0, .int .i64 0] ∧ w' = w) ?_ (fun v w' h => ⟨by rw [h.1], h.2⟩)
  refine ⟨fun _ => ⟨rfl, rfl⟩, fun h1 => ⟨fun _ => ⟨rfl, rfl⟩, fun h2 => ?_⟩⟩
  have h1 := of_decide_eq_false h1; have h2 := of_decide_eq_false h2
  rcases can_false hn with h | h <;> omega
theorem skip_bad {b : Nat} {w : World} {n : Int} (hn : can n = false) :
    Calls Tryz.prog F_bitin_Reader_Skip #[.pointer (some ⟨b, 0, none⟩), .int .i64 n] w fun e w' => e = .returned (.bool false) ∧ w' = w := by
  refine vc_bitin_Reader_Skip_ok (R := fun v w' => v = .bool false ∧ w' = w) ?_ (fun v w' h => ⟨by rw [h.1], h.2⟩)
  refine ⟨fun _ => ⟨rfl, rfl⟩, fun h1 => ⟨fun _ => ⟨rfl, rfl⟩, fun h2 => ?_⟩⟩
  have h1 := of_decide_eq_false h1; have h2 := of_decide_eq_false h2
  rcases can_false hn with h | h <;> omega
theorem rbits_bad {b : Nat} {w : World} {n : Int} (hn : can n = false) :
    Calls Tryz.prog F_bitin_Reader_Bits #[.pointer (some ⟨b, 0, none⟩), .int .i64 n] w fun e w' => e = .returned (.tuple #[.int .u32 0, .bool false]) ∧ w' = w := by
  refine vc_bitin_Reader_Bits_ok (R := fun v w' => v = .tuple #[.int .u32 0, .bool false] ∧ w' = w) ?_ (fun v w' h => ⟨by rw [h.1], h.2⟩)
  refine (peek_bad hn).mono ?_
  rintro e w2 ⟨rfl, rfl⟩
  refine ⟨_, _, rfl, ?_⟩
  refine (skip_bad hn).mono ?_
  rintro e w6 ⟨rfl, rfl⟩
  exact ⟨_, rfl, fun _ => ⟨rfl, rfl⟩, fun h => by cases h⟩

/-- The next multiple of eight. -/
def up8 (n : Nat) : Nat := (n + 7) / 8 * 8
theorem align_spec {b : Nat} {s : ByteArray} {pos : Nat} {from_ : Int} {w : World} (h : Rd w b s pos from_) :
    Calls Tryz.prog F_bitin_Reader_Align #[.pointer (some ⟨b, 0, none⟩)] w fun e w' => e = .returned (.tuple #[]) ∧ Rd w' b s (up8 pos) from_ ∧ Fr (· = b) w w' := by
  obtain ⟨a, h⟩ := h
  refine vc_bitin_Reader_Align_ok (R := fun v w' => v = .tuple #[] ∧ Rd w' b s (up8 pos) from_ ∧ Fr (· = b) w w') ?_ (fun v w' h => ⟨by rw [h.1], h.2⟩)
  have := h.lo; have := h.hi; have := h.sz
  have e0 : Int.tmod ((8 * a - pos : Nat) : Int) 8 = (((8 * a - pos) % 8 : Nat) : Int) := by rw [Int.tmod_eq_emod_of_nonneg (by omega)]; omega
  have e1 : pos + (8 * a - pos) % 8 = up8 pos := by unfold up8; omega
  have e2 : Int.fdiv ((held s a pos : Nat) : Int) (2 ^ min (((8 * a - pos) % 8 : Nat) : Int).toNat 64) = ((held s a (up8 pos) : Nat) : Int) := by
    have hm : min (((8 * a - pos) % 8 : Nat) : Int).toNat 64 = (8 * a - pos) % 8 := by omega
    have hc : (2 : Int) ^ ((8 * a - pos) % 8) = ((2 ^ ((8 * a - pos) % 8) : Nat) : Int) := by push_cast; rfl
    rw [hm, hc, ← e1, ← held_skip, Int.fdiv_eq_ediv_of_nonneg _ (Int.natCast_nonneg _), ← Int.natCast_ediv]
  refine ⟨_, h.c3, by decide, _, h.c2, by rw [e0]; omega, wr_blk h.blk (by simp), ?_⟩
  rw [e0, e2]
  rintro w3 rfl
  have b1 := set_blk h.blk 2 (.int .u64 ((held s a (up8 pos) : Nat) : Int))
  refine ⟨((8 * a - pos : Nat) : Int), by rw [cell_blk b1]; rfl, wr_blk b1 (by simp), ?_⟩
  have e3 : IntKind.i64.wrap (((8 * a - pos : Nat) : Int) - (((8 * a - pos) % 8 : Nat) : Int)) = ((8 * a - up8 pos : Nat) : Int) := by rw [wrap_i64 (by omega) (by omega)]; omega
  rw [e3]
  rintro w5 rfl
  have b2 := set_blk b1 3 (.int .i64 ((8 * a - up8 pos : Nat) : Int))
  exact ⟨rfl, ⟨a, by unfold up8; omega, by unfold up8; omega, h.sz, h.ok, b2⟩, (Fr.set (· = b) _ _ rfl).trans' (.set _ _ _ rfl)⟩

theorem held_zero (s : ByteArray) (a : Nat) : held s a (8 * a) = 0 := Nat.div_eq_of_lt (V_lt s a)

/-- n whole bytes from the next byte's beginning on. -/
theorem rbytes_spec {b : Nat} {s : ByteArray} {pos : Nat} {from_ : Int} {w : World} (h : Rd w b s pos from_) (n : Int) (hn : -9223372036854775808 ≤ n ∧ n ≤ 9223372036854775807) :
    Calls Tryz.prog F_bitin_Reader_Bytes #[.pointer (some ⟨b, 0, none⟩), .int .i64 n] w fun e w' =>
      ((0 ≤ n ∧ 8 * n ≤ ((left s (up8 pos) : Nat) : Int)) ∧ e = .returned (.tuple #[.string (s.extract (up8 pos / 8) (up8 pos / 8 + n.toNat)), .bool true]) ∧ Rd w' b s (up8 pos + 8 * n.toNat) from_ ∧ Fr (· = b) w w') ∨
      (¬ (0 ≤ n ∧ 8 * n ≤ ((left s (up8 pos) : Nat) : Int)) ∧ e = .returned (.tuple #[.string ⟨#[]⟩, .bool false]) ∧ Rd w' b s (up8 pos) from_ ∧ Fr (· = b) w w') := by
  refine vc_bitin_Reader_Bytes_ok (R := fun v w' => ((0 ≤ n ∧ 8 * n ≤ ((left s (up8 pos) : Nat) : Int)) ∧ v = .tuple #[.string (s.extract (up8 pos / 8) (up8 pos / 8 + n.toNat)), .bool true] ∧ Rd w' b s (up8 pos + 8 * n.toNat) from_ ∧ Fr (· = b) w w') ∨
      (¬ (0 ≤ n ∧ 8 * n ≤ ((left s (up8 pos) : Nat) : Int)) ∧ v = .tuple #[.string ⟨#[]⟩, .bool false] ∧ Rd w' b s (up8 pos) from_ ∧ Fr (· = b) w w')) ?_
      (fun v w' h => h.imp (fun h => ⟨h.1, by rw [h.2.1], h.2.2⟩) (fun h => ⟨h.1, by rw [h.2.1], h.2.2⟩))
  refine (align_spec h).mono ?_
  rintro e w2 ⟨rfl, ⟨a, h2⟩, f2⟩
  have := h2.lo; have := h2.hi; have := h2.sz; have := h2.ok
  have hu : up8 pos = 8 * (up8 pos / 8) := by unfold up8; omega
  have e0 : Int.tdiv ((8 * a - up8 pos : Nat) : Int) 8 = ((a - up8 pos / 8 : Nat) : Int) := by rw [Int.tdiv_eq_ediv_of_nonneg (by omega)]; omega
  have e1 : IntKind.i64.wrap ((a : Int) - IntKind.i64.wrap ((a - up8 pos / 8 : Nat) : Int)) = ((up8 pos / 8 : Nat) : Int) := by
    rw [wrap_i64 (x := ((a - up8 pos / 8 : Nat) : Int)) (by omega) (by omega), wrap_i64 (by omega) (by omega)]; omega
  refine ⟨rfl, _, h2.c1, _, h2.c3, by decide, fun w5 d => ?_⟩
  rw [e0, e1]
  have h5 := h2.drew d
  have f5 : Fr (· = b) w w5 := f2.trans' (.drew _ d)
  have hl : left s (up8 pos) = 8 * (s.size - up8 pos / 8) := by unfold left; omega
  have e2 : IntKind.i64.wrap ((s.size : Int) - ((up8 pos / 8 : Nat) : Int)) = ((s.size - up8 pos / 8 : Nat) : Int) := by rw [wrap_i64 (by omega) (by omega)]; omega
  refine ⟨fun hneg => .inr ⟨?_, rfl, ⟨a, h5⟩, f5⟩, fun hpos => ⟨_, h5.c0, fun hbig => .inr ⟨?_, rfl, ⟨a, h5⟩, f5⟩, fun hfit => ?_⟩⟩
  · have hneg := of_decide_eq_true hneg; omega
  · have hbig := of_decide_eq_true hbig
    rw [e2] at hbig; omega
  have hpos := of_decide_eq_false hpos
  have hfit := of_decide_eq_false hfit
  rw [e2] at hfit
  obtain ⟨m, rfl⟩ := Int.eq_ofNat_of_zero_le (show 0 ≤ n by omega)
  have e3 : IntKind.i64.wrap (((up8 pos / 8 : Nat) : Int) + (m : Int)) = ((up8 pos / 8 + m : Nat) : Int) := by rw [wrap_i64 (by omega) (by omega)]; omega
  rw [e3]
  refine ⟨wr_blk h5.blk (by simp), ?_⟩
  rintro w7 rfl
  have b1 := set_blk h5.blk 1 (.int .i64 ((up8 pos / 8 + m : Nat) : Int))
  refine ⟨wr_blk b1 (by simp), ?_⟩
  rintro w8 rfl
  have b2 := set_blk b1 2 (.int .u64 0)
  refine ⟨wr_blk b2 (by simp), ?_⟩
  rintro w9 rfl
  have b3 := set_blk b2 3 (.int .i64 0)
  refine ⟨s, by rw [cell_blk b3]; rfl, ⟨by omega, by omega, by omega⟩, .inl ⟨by omega, ?_, ⟨up8 pos / 8 + m, by simp only [Int.toNat_natCast]; omega, by simp only [Int.toNat_natCast]; omega, by omega, h5.ok, ?_⟩, ?_⟩⟩
  · simp only [Int.toNat_natCast]
  · have e4 : up8 pos + 8 * ((m : Int)).toNat = 8 * (up8 pos / 8 + m) := by rw [Int.toNat_natCast]; omega
    rw [e4, RdO, held_zero, Nat.sub_self]
    exact b3
  · exact ((f5.trans' (.set _ _ _ rfl)).trans' (.set _ _ _ rfl)).trans' (.set _ _ _ rfl)
end Go.Proofs.YtaaimcbicpgjoaaGreatDoor

/- Formulas of 1 Go functions of this seat (written by a program of the author's, vcgen.py), and that each is enough for the call. No condition. -/
set_option linter.unusedVariables false
namespace Go.Proofs.YtaaimcbicpgjoaaGreatDoor
open Go Vc Go.Proofs
set_option maxRecDepth 100000
/-- sums.FromLittle -/
def vc_sums_FromLittle (x0 : ByteArray) (w : World) (R : Value → World → Prop) : Prop :=
 ∃ I1 : Int → Int → World → Prop, ∃ I2 : Int → Int → World → Nat, (I1 0 0 w ∧
 ∀ n3 : Int,
 ∀ n4 : Int,
 ∀ w5 : World,
 (I1 n3 n4 w5 →
 ((((decide (n4 < if 8 < (↑(ByteArray.size x0) : Int) then 8 else (↑(ByteArray.size x0) : Int)) = true) →
 ((0 ≤ n4 ∧
 n4 < (↑(ByteArray.size x0) : Int)) ∧
 (0 ≤ IntKind.wrap IntKind.i64 (8 * n4) ∧
 (I1 (IntKind.wrap IntKind.u64 (↑(BitVec.toNat (BitVec.ofInt 64 n3 ||| BitVec.ofInt 64 (IntKind.wrap IntKind.u64 (IntKind.wrap IntKind.u64 (byteAt x0 n4) * 2 ^ min (Int.toNat (IntKind.wrap IntKind.i64 (8 * n4))) 64)))) : Int)) (IntKind.wrap IntKind.i64 (n4 + 1)) w5 ∧
 I2 (IntKind.wrap IntKind.u64 (↑(BitVec.toNat (BitVec.ofInt 64 n3 ||| BitVec.ofInt 64 (IntKind.wrap IntKind.u64 (IntKind.wrap IntKind.u64 (byteAt x0 n4) * 2 ^ min (Int.toNat (IntKind.wrap IntKind.i64 (8 * n4))) 64)))) : Int)) (IntKind.wrap IntKind.i64 (n4 + 1)) w5 < I2 n3 n4 w5))))) ∧
 ((decide (n4 < if 8 < (↑(ByteArray.size x0) : Int) then 8 else (↑(ByteArray.size x0) : Int)) = false) →
 R (Value.int IntKind.u64 n3) w5))))
theorem vc_sums_FromLittle_ok {x0 : ByteArray} {w : World} {R : Value → World → Prop} {R' : Ending → World → Prop} (h : vc_sums_FromLittle x0 w R) (hR : ∀ v w', R v w' → R' (.returned v) w') :
    Calls Tryz.prog 118 #[.string x0] w R' :=
  calls_of_body (vs := [(.string x0, false)]) (ty := ty) (ann := ⟨[], [(3, [(3, .int .u64), (8, .int .i64)])], [], []⟩) (c := Tryz.f118.body.getD .skip) (by kernel_rfl) Tryz.func118 (by kernel_rfl) (by kernel_rfl) (Eq.mp (by kernel_rfl) h) hR
end Go.Proofs.YtaaimcbicpgjoaaGreatDoor

/- Formulas of 10 Go functions of this seat (written by a program of the author's, vcgen.py), and that each is enough for the call. No condition. -/
set_option linter.unusedVariables false
namespace Go.Proofs.YtaaimcbicpgjoaaGreatDoor
open Go Vc Go.Proofs
set_option maxRecDepth 100000
/-- inflate.order -/
def vc_inflate_order (w : World) (R : Value → World → Prop) : Prop :=
 ∀ w1 : World,
 (w1 = World.alloc w (Obj.cells (Array.mk [Value.int IntKind.i64 0, Value.int IntKind.i64 0, Value.int IntKind.i64 0, Value.int IntKind.i64 0, Value.int IntKind.i64 0, Value.int IntKind.i64 0, Value.int IntKind.i64 0, Value.int IntKind.i64 0, Value.int IntKind.i64 0, Value.int IntKind.i64 0, Value.int IntKind.i64 0, Value.int IntKind.i64 0, Value.int IntKind.i64 0, Value.int IntKind.i64 0, Value.int IntKind.i64 0, Value.int IntKind.i64 0, Value.int IntKind.i64 0, Value.int IntKind.i64 0, Value.int IntKind.i64 0]) 177) →
 ∃ w2 : World, (Sem.run Tryz.prog (storeVar 177 (Addr.mk (Array.size (World.heap w)) 0 none) (Value.agg (Array.mk [Value.int IntKind.i64 16, Value.int IntKind.i64 17, Value.int IntKind.i64 18, Value.int IntKind.i64 0, Value.int IntKind.i64 8, Value.int IntKind.i64 7, Value.int IntKind.i64 9, Value.int IntKind.i64 6, Value.int IntKind.i64 10, Value.int IntKind.i64 5, Value.int IntKind.i64 11, Value.int IntKind.i64 4, Value.int IntKind.i64 12, Value.int IntKind.i64 3, Value.int IntKind.i64 13, Value.int IntKind.i64 2, Value.int IntKind.i64 14, Value.int IntKind.i64 1, Value.int IntKind.i64 15]))) w1 = Result.ok PUnit.unit w2 ∧
 ∃ v3 : Value, (Sem.run Tryz.prog (loadVar 177 (Addr.mk (Array.size (World.heap w)) 0 none)) w2 = Result.ok v3 w2 ∧
 R v3 w2)))
theorem vc_inflate_order_ok {w : World} {R : Value → World → Prop} {R' : Ending → World → Prop} (h : vc_inflate_order w R) (hR : ∀ v w', R v w' → R' (.returned v) w') :
    Calls Tryz.prog 120 #[] w R' :=
  calls_of_body (vs := []) (ty := ty) (ann := ⟨[], [], [], []⟩) (c := Tryz.f120.body.getD .skip) (by kernel_rfl) Tryz.func120 (by kernel_rfl) (by kernel_rfl) (Eq.mp (by kernel_rfl) h) hR
/-- inflate.lengthBase -/
def vc_inflate_lengthBase (x0 : Int) (w : World) (R : Value → World → Prop) : Prop :=
 ((((x0 == 28) = true →
 R (Value.tuple (Array.mk [Value.int IntKind.i64 258, Value.int IntKind.i64 0])) w)) ∧
 ((x0 == 28) = false →
 (((decide (x0 < 8) = true →
 R (Value.tuple (Array.mk [Value.int IntKind.i64 (IntKind.wrap IntKind.i64 (3 + x0)), Value.int IntKind.i64 0])) w)) ∧
 (decide (x0 < 8) = false →
 ((4 : Int) ≠ (0 : Int) ∧
 ((4 : Int) ≠ (0 : Int) ∧
 (0 ≤ IntKind.wrap IntKind.i64 (IntKind.wrap IntKind.i64 (Int.tdiv x0 4) - 1) ∧
 R (Value.tuple (Array.mk [Value.int IntKind.i64 (IntKind.wrap IntKind.i64 (3 + IntKind.wrap IntKind.i64 (IntKind.wrap IntKind.i64 (4 + Int.tmod x0 4) * 2 ^ min (Int.toNat (IntKind.wrap IntKind.i64 (IntKind.wrap IntKind.i64 (Int.tdiv x0 4) - 1))) 64))), Value.int IntKind.i64 (IntKind.wrap IntKind.i64 (IntKind.wrap IntKind.i64 (Int.tdiv x0 4) - 1))])) w)))))))
theorem vc_inflate_lengthBase_ok {x0 : Int} {w : World} {R : Value → World → Prop} {R' : Ending → World → Prop} (h : vc_inflate_lengthBase x0 w R) (hR : ∀ v w', R v w' → R' (.returned v) w') :
    Calls Tryz.prog 67 #[.int .i64 x0] w R' :=
  calls_of_body (vs := [(.int .i64 x0, false)]) (ty := ty) (ann := ⟨[], [], [], []⟩) (c := Tryz.f67.body.getD .skip) (by kernel_rfl) Tryz.func67 (by kernel_rfl) (by kernel_rfl) (Eq.mp (by kernel_rfl) h) hR
/-- inflate.distBase -/
def vc_inflate_distBase (x0 : Int) (w : World) (R : Value → World → Prop) : Prop :=
 (((decide (x0 < 4) = true →
 R (Value.tuple (Array.mk [Value.int IntKind.i64 (IntKind.wrap IntKind.i64 (1 + x0)), Value.int IntKind.i64 0])) w)) ∧
 (decide (x0 < 4) = false →
 ((2 : Int) ≠ (0 : Int) ∧
 ((2 : Int) ≠ (0 : Int) ∧
 (0 ≤ IntKind.wrap IntKind.i64 (IntKind.wrap IntKind.i64 (Int.tdiv x0 2) - 1) ∧
 R (Value.tuple (Array.mk [Value.int IntKind.i64 (IntKind.wrap IntKind.i64 (1 + IntKind.wrap IntKind.i64 (IntKind.wrap IntKind.i64 (2 + Int.tmod x0 2) * 2 ^ min (Int.toNat (IntKind.wrap IntKind.i64 (IntKind.wrap IntKind.i64 (Int.tdiv x0 2) - 1))) 64))), Value.int IntKind.i64 (IntKind.wrap IntKind.i64 (IntKind.wrap IntKind.i64 (Int.tdiv x0 2) - 1))])) w)))))
theorem vc_inflate_distBase_ok {x0 : Int} {w : World} {R : Value → World → Prop} {R' : Ending → World → Prop} (h : vc_inflate_distBase x0 w R) (hR : ∀ v w', R v w' → R' (.returned v) w') :
    Calls Tryz.prog 68 #[.int .i64 x0] w R' :=
  calls_of_body (vs := [(.int .i64 x0, false)]) (ty := ty) (ann := ⟨[], [], [], []⟩) (c := Tryz.f68.body.getD .skip) (by kernel_rfl) Tryz.func68 (by kernel_rfl) (by kernel_rfl) (Eq.mp (by kernel_rfl) h) hR
/-- (*inflate.state).put -/
def vc_inflate_state_put (x0 : Nat) (x1 : Int) (w : World) (R : Value → World → Prop) : Prop :=
 ∃ l1 : Sl, (World.cell? w (Addr.mk x0 1 none) = some (Value.slice l1.1 l1.2 l1.3) ∧
 ∃ n2 : Int, (World.cell? w (Addr.mk x0 2 none) = some (Value.int IntKind.i64 n2) ∧
 ∀ w3 : World,
 (Drew w w3 →
 (((((↑l1.2 : Int) == n2) = true →
 R (Value.int IntKind.i64 2) w3)) ∧
 (((↑l1.2 : Int) == n2) = false →
 ∃ l4 : Sl, (World.cell? w3 (Addr.mk x0 1 none) = some (Value.slice l4.1 l4.2 l4.3) ∧
 ∀ w5 : World,
 (w5 = World.alloc w3 (Obj.cells (Array.mk [Value.int IntKind.u8 x1]) 5) →
 ∃ w6 : World, ∃ l7 : Sl, (Sem.run Tryz.prog (Builtin.append_ (Array.mk [60, 60]) 60 (Array.mk [Value.slice l4.1 l4.2 l4.3, Value.slice (some (Addr.mk (Array.size (World.heap w3)) 0 none)) 1 1])) w5 = Result.ok (Value.slice l7.1 l7.2 l7.3) w6 ∧
 (Wr w6 (Addr.mk x0 1 none) ∧
 ∀ w8 : World,
 (w8 = World.setCell w6 (Addr.mk x0 1 none) (Value.slice l7.1 l7.2 l7.3) →
 R (Value.int IntKind.i64 0) w8))))))))))
theorem vc_inflate_state_put_ok {x0 : Nat} {x1 : Int} {w : World} {R : Value → World → Prop} {R' : Ending → World → Prop} (h : vc_inflate_state_put x0 x1 w R) (hR : ∀ v w', R v w' → R' (.returned v) w') :
    Calls Tryz.prog 107 #[.pointer (some ⟨x0, 0, none⟩), .int .u8 x1] w R' :=
  calls_of_body (vs := [(.pointer (some ⟨x0, 0, none⟩), true), (.int .u8 x1, false)]) (ty := ty) (ann := ⟨[], [], [(1, .quiet)], []⟩) (c := Tryz.f107.body.getD .skip) (by kernel_rfl) Tryz.func107 (by kernel_rfl) (by kernel_rfl) (Eq.mp (by kernel_rfl) h) hR
/-- inflate.fixed -/
def vc_inflate_fixed (w : World) (R : Value → World → Prop) : Prop :=
 ∃ I1 : Sl → Int → World → Prop, ∃ I2 : Sl → Int → World → Nat, (I1 (Sl.mk none 0 0) 0 w ∧
 ∀ l3 : Sl,
 ∀ n4 : Int,
 ∀ w5 : World,
 (I1 l3 n4 w5 →
 (((decide (n4 < 288) = true →
 ∃ I6 : Bool → World → Prop, ((((decide (n4 < 144) = true →
 I6 (decide (n4 < 144)) w5)) ∧
 (decide (n4 < 144) = false →
 I6 (decide (n4 ≥ 280)) w5)) ∧
 ∀ b7 : Bool,
 ∀ w8 : World,
 (I6 b7 w8 →
 (((b7 = true →
 ∀ w9 : World,
 (w9 = World.alloc w8 (Obj.cells (Array.mk [Value.int IntKind.i64 8]) 3) →
 ∃ w10 : World, ∃ l11 : Sl, (Sem.run Tryz.prog (Builtin.append_ (Array.mk [58, 58]) 58 (Array.mk [Value.slice l3.1 l3.2 l3.3, Value.slice (some (Addr.mk (Array.size (World.heap w8)) 0 none)) 1 1])) w9 = Result.ok (Value.slice l11.1 l11.2 l11.3) w10 ∧
 (I1 (Sl.mk l11.1 l11.2 l11.3) (IntKind.wrap IntKind.i64 (n4 + 1)) w10 ∧
 I2 (Sl.mk l11.1 l11.2 l11.3) (IntKind.wrap IntKind.i64 (n4 + 1)) w10 < I2 l3 n4 w5))))) ∧
 (b7 = false →
 (((decide (n4 < 256) = true →
 ∀ w12 : World,
 (w12 = World.alloc w8 (Obj.cells (Array.mk [Value.int IntKind.i64 9]) 3) →
 ∃ w13 : World, ∃ l14 : Sl, (Sem.run Tryz.prog (Builtin.append_ (Array.mk [58, 58]) 58 (Array.mk [Value.slice l3.1 l3.2 l3.3, Value.slice (some (Addr.mk (Array.size (World.heap w8)) 0 none)) 1 1])) w12 = Result.ok (Value.slice l14.1 l14.2 l14.3) w13 ∧
 (I1 (Sl.mk l14.1 l14.2 l14.3) (IntKind.wrap IntKind.i64 (n4 + 1)) w13 ∧
 I2 (Sl.mk l14.1 l14.2 l14.3) (IntKind.wrap IntKind.i64 (n4 + 1)) w13 < I2 l3 n4 w5))))) ∧
 (decide (n4 < 256) = false →
 ∀ w15 : World,
 (w15 = World.alloc w8 (Obj.cells (Array.mk [Value.int IntKind.i64 7]) 3) →
 ∃ w16 : World, ∃ l17 : Sl, (Sem.run Tryz.prog (Builtin.append_ (Array.mk [58, 58]) 58 (Array.mk [Value.slice l3.1 l3.2 l3.3, Value.slice (some (Addr.mk (Array.size (World.heap w8)) 0 none)) 1 1])) w15 = Result.ok (Value.slice l17.1 l17.2 l17.3) w16 ∧
 (I1 (Sl.mk l17.1 l17.2 l17.3) (IntKind.wrap IntKind.i64 (n4 + 1)) w16 ∧
 I2 (Sl.mk l17.1 l17.2 l17.3) (IntKind.wrap IntKind.i64 (n4 + 1)) w16 < I2 l3 n4 w5))))))))))) ∧
 (decide (n4 < 288) = false →
 ∃ I18 : Sl → Int → World → Prop, ∃ I19 : Sl → Int → World → Nat, (I18 (Sl.mk none 0 0) 0 w5 ∧
 ∀ l20 : Sl,
 ∀ n21 : Int,
 ∀ w22 : World,
 (I18 l20 n21 w22 →
 (((decide (n21 < 32) = true →
 ∀ w23 : World,
 (w23 = World.alloc w22 (Obj.cells (Array.mk [Value.int IntKind.i64 5]) 3) →
 ∃ w24 : World, ∃ l25 : Sl, (Sem.run Tryz.prog (Builtin.append_ (Array.mk [58, 58]) 58 (Array.mk [Value.slice l20.1 l20.2 l20.3, Value.slice (some (Addr.mk (Array.size (World.heap w22)) 0 none)) 1 1])) w23 = Result.ok (Value.slice l25.1 l25.2 l25.3) w24 ∧
 (I18 (Sl.mk l25.1 l25.2 l25.3) (IntKind.wrap IntKind.i64 (n21 + 1)) w24 ∧
 I19 (Sl.mk l25.1 l25.2 l25.3) (IntKind.wrap IntKind.i64 (n21 + 1)) w24 < I19 l20 n21 w22))))) ∧
 (decide (n21 < 32) = false →
 Calls Tryz.prog (92 : Nat) (Array.mk [Value.slice l3.1 l3.2 l3.3]) (w22) (fun e26 w27 =>
 ∃ p28 : Option Addr, ∃ n29 : Int, (e26 = Ending.returned (Value.tuple (Array.mk [Value.pointer p28, Value.int IntKind.i64 n29])) ∧
 Calls Tryz.prog (92 : Nat) (Array.mk [Value.slice l20.1 l20.2 l20.3]) (w27) (fun e30 w31 =>
 ∃ p32 : Option Addr, ∃ n33 : Int, (e30 = Ending.returned (Value.tuple (Array.mk [Value.pointer p32, Value.int IntKind.i64 n33])) ∧
 R (Value.tuple (Array.mk [Value.pointer p28, Value.pointer p32])) w31))))))))))))
theorem vc_inflate_fixed_ok {w : World} {R : Value → World → Prop} {R' : Ending → World → Prop} (h : vc_inflate_fixed w R) (hR : ∀ v w', R v w' → R' (.returned v) w') :
    Calls Tryz.prog 62 #[] w R' :=
  calls_of_body (vs := []) (ty := ty) (ann := ⟨[(8, [(15, .bool)])], [(3, [(2, .slice), (9, .int .i64)]), (13, [(3, .slice), (30, .int .i64)])], [], []⟩) (c := Tryz.f62.body.getD .skip) (by kernel_rfl) Tryz.func62 (by kernel_rfl) (by kernel_rfl) (Eq.mp (by kernel_rfl) h) hR
/-- (*inflate.state).stored -/
def vc_inflate_state_stored (x0 : Nat) (w : World) (R : Value → World → Prop) : Prop :=
 ∃ p1 : Option Addr, (World.cell? w (Addr.mk x0 0 none) = some (Value.pointer p1) ∧
 Calls Tryz.prog (117 : Nat) (Array.mk [Value.pointer p1, Value.int IntKind.i64 4]) (w) (fun e2 w3 =>
 ∃ s4 : ByteArray, ∃ b5 : Bool, (e2 = Ending.returned (Value.tuple (Array.mk [Value.string s4, Value.bool b5])) ∧
 ((((!b5) = true →
 R (Value.int IntKind.i64 6) w3)) ∧
 ((!b5) = false →
 (((0 : Int) ≤ (2 : Int) ∧
 2 ≤ (↑(ByteArray.size s4) : Int)) ∧
 Calls Tryz.prog (118 : Nat) (Array.mk [Value.string (ByteArray.extract s4 0 (Int.toNat 2))]) (w3) (fun e6 w7 =>
 ∃ n8 : Int, (e6 = Ending.returned (Value.int IntKind.u64 n8) ∧
 (((0 : Int) ≤ (2 : Int) ∧
 2 ≤ (↑(ByteArray.size s4) : Int)) ∧
 Calls Tryz.prog (118 : Nat) (Array.mk [Value.string (ByteArray.extract s4 (Int.toNat 2) (ByteArray.size s4))]) (w7) (fun e9 w10 =>
 ∃ n11 : Int, (e9 = Ending.returned (Value.int IntKind.u64 n11) ∧
 ((((IntKind.wrap IntKind.i64 (↑(BitVec.toNat (BitVec.ofInt 64 (IntKind.wrap IntKind.i64 n8) ^^^ BitVec.ofInt 64 65535)) : Int) != IntKind.wrap IntKind.i64 n11) = true →
 R (Value.int IntKind.i64 3) w10)) ∧
 ((IntKind.wrap IntKind.i64 (↑(BitVec.toNat (BitVec.ofInt 64 (IntKind.wrap IntKind.i64 n8) ^^^ BitVec.ofInt 64 65535)) : Int) != IntKind.wrap IntKind.i64 n11) = false →
 ∃ p12 : Option Addr, (World.cell? w10 (Addr.mk x0 0 none) = some (Value.pointer p12) ∧
 Calls Tryz.prog (117 : Nat) (Array.mk [Value.pointer p12, Value.int IntKind.i64 (IntKind.wrap IntKind.i64 n8)]) (w10) (fun e13 w14 =>
 ∃ s15 : ByteArray, ∃ b16 : Bool, (e13 = Ending.returned (Value.tuple (Array.mk [Value.string s15, Value.bool b16])) ∧
 ∃ I17 : ByteArray → World → Prop, (((((!b16) = true →
 ∀ w18 : World,
 (Drew w14 w18 →
 ∃ I19 : World → Prop, (I19 w18 ∧
 ∃ p20 : Option Addr, ((∀ w21 : World,
 (I19 w21 →
 World.cell? w21 (Addr.mk x0 0 none) = some (Value.pointer p20))) ∧
 ∃ p22 : Option Addr, ((∀ w23 : World,
 (I19 w23 →
 World.cell? w23 (Addr.mk x0 0 none) = some (Value.pointer p22))) ∧
 Calls Tryz.prog (119 : Nat) (Array.mk [Value.pointer p22]) (w18) (fun e24 w25 =>
 ∃ n26 : Int, (e24 = Ending.returned (Value.int IntKind.i64 n26) ∧
 (I19 w25 ∧
 ((8 : Int) ≠ (0 : Int) ∧
 Calls Tryz.prog (117 : Nat) (Array.mk [Value.pointer p20, Value.int IntKind.i64 (IntKind.wrap IntKind.i64 (Int.tdiv n26 8))]) (w25) (fun e27 w28 =>
 ∃ s29 : ByteArray, ∃ b30 : Bool, (e27 = Ending.returned (Value.tuple (Array.mk [Value.string s29, Value.bool b30])) ∧
 (I19 w28 ∧
 I17 s29 w28))))))))))))) ∧
 ((!b16) = false →
 I17 s15 w14)) ∧
 ∀ s31 : ByteArray,
 ∀ w32 : World,
 (I17 s31 w32 →
 ∃ n33 : Int, (World.cell? w32 (Addr.mk x0 2 none) = some (Value.int IntKind.i64 n33) ∧
 ∃ l34 : Sl, (World.cell? w32 (Addr.mk x0 1 none) = some (Value.slice l34.1 l34.2 l34.3) ∧
 ∀ w35 : World,
 (Drew w32 w35 →
 (((decide ((↑(ByteArray.size s31) : Int) > IntKind.wrap IntKind.i64 (n33 - (↑l34.2 : Int))) = true →
 R (Value.int IntKind.i64 2) w35)) ∧
 (decide ((↑(ByteArray.size s31) : Int) > IntKind.wrap IntKind.i64 (n33 - (↑l34.2 : Int))) = false →
 ∃ l36 : Sl, (World.cell? w35 (Addr.mk x0 1 none) = some (Value.slice l36.1 l36.2 l36.3) ∧
 ∃ w37 : World, ∃ l38 : Sl, (Sem.run Tryz.prog (Builtin.append_ (Array.mk [60, 9]) 60 (Array.mk [Value.slice l36.1 l36.2 l36.3, Value.string s31])) w35 = Result.ok (Value.slice l38.1 l38.2 l38.3) w37 ∧
 (Wr w37 (Addr.mk x0 1 none) ∧
 ∀ w39 : World,
 (w39 = World.setCell w37 (Addr.mk x0 1 none) (Value.slice l38.1 l38.2 l38.3) →
 ((((!b16) = true →
 R (Value.int IntKind.i64 6) w39)) ∧
 ((!b16) = false →
 R (Value.int IntKind.i64 0) w39)))))))))))))))))))))))))))))
theorem vc_inflate_state_stored_ok {x0 : Nat} {w : World} {R : Value → World → Prop} {R' : Ending → World → Prop} (h : vc_inflate_state_stored x0 w R) (hR : ∀ v w', R v w' → R' (.returned v) w') :
    Calls Tryz.prog 104 #[.pointer (some ⟨x0, 0, none⟩)] w R' :=
  calls_of_body (vs := [(.pointer (some ⟨x0, 0, none⟩), true)]) (ty := ty) (ann := ⟨[(10, [(6, .str)])], [], [(9, .held [(0, true), (1, true), (2, true), (3, true), (4, true), (5, true), (6, true), (7, true), (8, false), (9, true), (10, false), (11, true), (12, true), (13, true), (14, true)]), (10, .quiet)], []⟩) (c := Tryz.f104.body.getD .skip) (by kernel_rfl) Tryz.func104 (by kernel_rfl) (by kernel_rfl) (Eq.mp (by kernel_rfl) h) hR
/-- (*inflate.state).tables -/
def vc_inflate_state_tables (x0 : Nat) (w : World) (R : Value → World → Prop) : Prop :=
 ∃ p1 : Option Addr, (World.cell? w (Addr.mk x0 0 none) = some (Value.pointer p1) ∧
 Calls Tryz.prog (103 : Nat) (Array.mk [Value.pointer p1, Value.int IntKind.i64 14]) (w) (fun e2 w3 =>
 ∃ n4 : Int, ∃ b5 : Bool, (e2 = Ending.returned (Value.tuple (Array.mk [Value.int IntKind.u32 n4, Value.bool b5])) ∧
 ((((!b5) = true →
 R (Value.tuple (Array.mk [Value.pointer none, Value.pointer none, Value.int IntKind.i64 6])) w3)) ∧
 ((!b5) = false →
 ((0 : Int) ≤ (5 : Int) ∧
 ((0 : Int) ≤ (10 : Int) ∧
 (((decide (IntKind.wrap IntKind.i64 (IntKind.wrap IntKind.i64 (IntKind.wrap IntKind.u32 (↑(BitVec.toNat (BitVec.ofInt 32 n4 &&& BitVec.ofInt 32 31)) : Int)) + 257) > 286) = true →
 R (Value.tuple (Array.mk [Value.pointer none, Value.pointer none, Value.int IntKind.i64 3])) w3)) ∧
 (decide (IntKind.wrap IntKind.i64 (IntKind.wrap IntKind.i64 (IntKind.wrap IntKind.u32 (↑(BitVec.toNat (BitVec.ofInt 32 n4 &&& BitVec.ofInt 32 31)) : Int)) + 257) > 286) = false →
 (((decide (IntKind.wrap IntKind.i64 (IntKind.wrap IntKind.i64 (IntKind.wrap IntKind.u32 (↑(BitVec.toNat (BitVec.ofInt 32 (Int.fdiv n4 (2 ^ min (Int.toNat 5) 32)) &&& BitVec.ofInt 32 31)) : Int)) + 1) > 30) = true →
 R (Value.tuple (Array.mk [Value.pointer none, Value.pointer none, Value.int IntKind.i64 3])) w3)) ∧
 (decide (IntKind.wrap IntKind.i64 (IntKind.wrap IntKind.i64 (IntKind.wrap IntKind.u32 (↑(BitVec.toNat (BitVec.ofInt 32 (Int.fdiv n4 (2 ^ min (Int.toNat 5) 32)) &&& BitVec.ofInt 32 31)) : Int)) + 1) > 30) = false →
 ∃ w6 : World, ∃ l7 : Sl, (Sem.run Tryz.prog (Instr.makeSlice 58 (Value.int IntKind.i64 19) (Value.int IntKind.i64 19)) w3 = Result.ok (Value.slice l7.1 l7.2 l7.3) w6 ∧
 ∃ I8 : Int → World → Prop, ∃ I9 : Int → World → Nat, (I8 0 w6 ∧
 ∀ n10 : Int,
 ∀ w11 : World,
 (I8 n10 w11 →
 (((decide (n10 < IntKind.wrap IntKind.i64 (IntKind.wrap IntKind.i64 (Int.fdiv n4 (2 ^ min (Int.toNat 10) 32)) + 4)) = true →
 ∃ p12 : Option Addr, (World.cell? w11 (Addr.mk x0 0 none) = some (Value.pointer p12) ∧
 Calls Tryz.prog (103 : Nat) (Array.mk [Value.pointer p12, Value.int IntKind.i64 3]) (w11) (fun e13 w14 =>
 ∃ n15 : Int, ∃ b16 : Bool, (e13 = Ending.returned (Value.tuple (Array.mk [Value.int IntKind.u32 n15, Value.bool b16])) ∧
 ((((!b16) = true →
 R (Value.tuple (Array.mk [Value.pointer none, Value.pointer none, Value.int IntKind.i64 6])) w14)) ∧
 ((!b16) = false →
 Calls Tryz.prog (120 : Nat) (Array.mk []) (w14) (fun e17 w18 =>
 ∃ v19 : Value, (e17 = Ending.returned v19 ∧
 ∃ w20 : World, ∃ n21 : Int, (Sem.run Tryz.prog (Instr.index 177 v19 (Value.int IntKind.i64 n10)) w18 = Result.ok (Value.int IntKind.i64 n21) w20 ∧
 ((0 ≤ n21 ∧
 n21 < (↑l7.2 : Int)) ∧
 ∃ a22 : Addr, (l7.1 = some a22 ∧
 (Wr w20 (Addr.add a22 (Int.toNat n21 * 1)) ∧
 ∀ w23 : World,
 (w23 = World.setCell w20 (Addr.add a22 (Int.toNat n21 * 1)) (Value.int IntKind.i64 (IntKind.wrap IntKind.i64 n15)) →
 (I8 (IntKind.wrap IntKind.i64 (n10 + 1)) w23 ∧
 I9 (IntKind.wrap IntKind.i64 (n10 + 1)) w23 < I9 n10 w11))))))))))))))) ∧
 (decide (n10 < IntKind.wrap IntKind.i64 (IntKind.wrap IntKind.i64 (Int.fdiv n4 (2 ^ min (Int.toNat 10) 32)) + 4)) = false →
 Calls Tryz.prog (92 : Nat) (Array.mk [Value.slice l7.1 l7.2 l7.3]) (w11) (fun e24 w25 =>
 ∃ p26 : Option Addr, ∃ n27 : Int, (e24 = Ending.returned (Value.tuple (Array.mk [Value.pointer p26, Value.int IntKind.i64 n27])) ∧
 ((((n27 != 0) = true →
 R (Value.tuple (Array.mk [Value.pointer none, Value.pointer none, Value.int IntKind.i64 3])) w25)) ∧
 ((n27 != 0) = false →
 ∃ I28 : Sl → World → Prop, ∃ I29 : Sl → World → Nat, (I28 (Sl.mk none 0 0) w25 ∧
 ∀ l30 : Sl,
 ∀ w31 : World,
 (I28 l30 w31 →
 (((decide ((↑l30.2 : Int) < IntKind.wrap IntKind.i64 (IntKind.wrap IntKind.i64 (IntKind.wrap IntKind.i64 (IntKind.wrap IntKind.u32 (↑(BitVec.toNat (BitVec.ofInt 32 n4 &&& BitVec.ofInt 32 31)) : Int)) + 257) + IntKind.wrap IntKind.i64 (IntKind.wrap IntKind.i64 (IntKind.wrap IntKind.u32 (↑(BitVec.toNat (BitVec.ofInt 32 (Int.fdiv n4 (2 ^ min (Int.toNat 5) 32)) &&& BitVec.ofInt 32 31)) : Int)) + 1))) = true →
 ∃ p32 : Option Addr, (World.cell? w31 (Addr.mk x0 0 none) = some (Value.pointer p32) ∧
 Calls Tryz.prog (106 : Nat) (Array.mk [Value.pointer p26, Value.pointer p32]) (w31) (fun e33 w34 =>
 ∃ n35 : Int, ∃ n36 : Int, (e33 = Ending.returned (Value.tuple (Array.mk [Value.int IntKind.i64 n35, Value.int IntKind.i64 n36])) ∧
 ((((n36 != 0) = true →
 R (Value.tuple (Array.mk [Value.pointer none, Value.pointer none, Value.int IntKind.i64 n36])) w34)) ∧
 ((n36 != 0) = false →
 (((decide (n35 < 16) = true →
 ∀ w37 : World,
 (w37 = World.alloc w34 (Obj.cells (Array.mk [Value.int IntKind.i64 n35]) 3) →
 ∃ w38 : World, ∃ l39 : Sl, (Sem.run Tryz.prog (Builtin.append_ (Array.mk [58, 58]) 58 (Array.mk [Value.slice l30.1 l30.2 l30.3, Value.slice (some (Addr.mk (Array.size (World.heap w34)) 0 none)) 1 1])) w37 = Result.ok (Value.slice l39.1 l39.2 l39.3) w38 ∧
 (I28 (Sl.mk l39.1 l39.2 l39.3) w38 ∧
 I29 (Sl.mk l39.1 l39.2 l39.3) w38 < I29 l30 w31))))) ∧
 (decide (n35 < 16) = false →
 ∃ I40 : Int → Int → Int → World → Prop, (((((n35 == 16) = true →
 (((((↑l30.2 : Int) == 0) = true →
 R (Value.tuple (Array.mk [Value.pointer none, Value.pointer none, Value.int IntKind.i64 3])) w34)) ∧
 (((↑l30.2 : Int) == 0) = false →
 ((0 ≤ IntKind.wrap IntKind.i64 ((↑l30.2 : Int) - 1) ∧
 IntKind.wrap IntKind.i64 ((↑l30.2 : Int) - 1) < (↑l30.2 : Int)) ∧
 ∃ a41 : Addr, (l30.1 = some a41 ∧
 ∃ n42 : Int, (World.cell? w34 (Addr.add a41 (Int.toNat (IntKind.wrap IntKind.i64 ((↑l30.2 : Int) - 1)) * 1)) = some (Value.int IntKind.i64 n42) ∧
 I40 2 3 n42 w34))))))) ∧
 ((n35 == 16) = false →
 ((((n35 == 17) = true →
 I40 3 3 0 w34)) ∧
 ((n35 == 17) = false →
 I40 7 11 0 w34)))) ∧
 ∀ n43 : Int,
 ∀ n44 : Int,
 ∀ n45 : Int,
 ∀ w46 : World,
 (I40 n43 n44 n45 w46 →
 ∃ p47 : Option Addr, (World.cell? w46 (Addr.mk x0 0 none) = some (Value.pointer p47) ∧
 Calls Tryz.prog (103 : Nat) (Array.mk [Value.pointer p47, Value.int IntKind.i64 n43]) (w46) (fun e48 w49 =>
 ∃ n50 : Int, ∃ b51 : Bool, (e48 = Ending.returned (Value.tuple (Array.mk [Value.int IntKind.u32 n50, Value.bool b51])) ∧
 ((((!b51) = true →
 R (Value.tuple (Array.mk [Value.pointer none, Value.pointer none, Value.int IntKind.i64 6])) w49)) ∧
 ((!b51) = false →
 (((decide (IntKind.wrap IntKind.i64 (IntKind.wrap IntKind.i64 ((↑l30.2 : Int) + n44) + IntKind.wrap IntKind.i64 n50) > IntKind.wrap IntKind.i64 (IntKind.wrap IntKind.i64 (IntKind.wrap IntKind.i64 (IntKind.wrap IntKind.u32 (↑(BitVec.toNat (BitVec.ofInt 32 n4 &&& BitVec.ofInt 32 31)) : Int)) + 257) + IntKind.wrap IntKind.i64 (IntKind.wrap IntKind.i64 (IntKind.wrap IntKind.u32 (↑(BitVec.toNat (BitVec.ofInt 32 (Int.fdiv n4 (2 ^ min (Int.toNat 5) 32)) &&& BitVec.ofInt 32 31)) : Int)) + 1))) = true →
 R (Value.tuple (Array.mk [Value.pointer none, Value.pointer none, Value.int IntKind.i64 3])) w49)) ∧
 (decide (IntKind.wrap IntKind.i64 (IntKind.wrap IntKind.i64 ((↑l30.2 : Int) + n44) + IntKind.wrap IntKind.i64 n50) > IntKind.wrap IntKind.i64 (IntKind.wrap IntKind.i64 (IntKind.wrap IntKind.i64 (IntKind.wrap IntKind.u32 (↑(BitVec.toNat (BitVec.ofInt 32 n4 &&& BitVec.ofInt 32 31)) : Int)) + 257) + IntKind.wrap IntKind.i64 (IntKind.wrap IntKind.i64 (IntKind.wrap IntKind.u32 (↑(BitVec.toNat (BitVec.ofInt 32 (Int.fdiv n4 (2 ^ min (Int.toNat 5) 32)) &&& BitVec.ofInt 32 31)) : Int)) + 1))) = false →
 ∃ I52 : Sl → Int → World → Prop, ∃ I53 : Sl → Int → World → Nat, (I52 (Sl.mk l30.1 l30.2 l30.3) 0 w49 ∧
 ∀ l54 : Sl,
 ∀ n55 : Int,
 ∀ w56 : World,
 (I52 l54 n55 w56 →
 (((decide (n55 < IntKind.wrap IntKind.i64 (n44 + IntKind.wrap IntKind.i64 n50)) = true →
 ∀ w57 : World,
 (w57 = World.alloc w56 (Obj.cells (Array.mk [Value.int IntKind.i64 n45]) 3) →
 ∃ w58 : World, ∃ l59 : Sl, (Sem.run Tryz.prog (Builtin.append_ (Array.mk [58, 58]) 58 (Array.mk [Value.slice l54.1 l54.2 l54.3, Value.slice (some (Addr.mk (Array.size (World.heap w56)) 0 none)) 1 1])) w57 = Result.ok (Value.slice l59.1 l59.2 l59.3) w58 ∧
 (I52 (Sl.mk l59.1 l59.2 l59.3) (IntKind.wrap IntKind.i64 (n55 + 1)) w58 ∧
 I53 (Sl.mk l59.1 l59.2 l59.3) (IntKind.wrap IntKind.i64 (n55 + 1)) w58 < I53 l54 n55 w56))))) ∧
 (decide (n55 < IntKind.wrap IntKind.i64 (n44 + IntKind.wrap IntKind.i64 n50)) = false →
 (I28 (Sl.mk l54.1 l54.2 l54.3) w56 ∧
 I29 (Sl.mk l54.1 l54.2 l54.3) w56 < I29 l30 w31))))))))))))))))))))))) ∧
 (decide ((↑l30.2 : Int) < IntKind.wrap IntKind.i64 (IntKind.wrap IntKind.i64 (IntKind.wrap IntKind.i64 (IntKind.wrap IntKind.u32 (↑(BitVec.toNat (BitVec.ofInt 32 n4 &&& BitVec.ofInt 32 31)) : Int)) + 257) + IntKind.wrap IntKind.i64 (IntKind.wrap IntKind.i64 (IntKind.wrap IntKind.u32 (↑(BitVec.toNat (BitVec.ofInt 32 (Int.fdiv n4 (2 ^ min (Int.toNat 5) 32)) &&& BitVec.ofInt 32 31)) : Int)) + 1))) = false →
 ((0 ≤ IntKind.wrap IntKind.i64 (IntKind.wrap IntKind.i64 (IntKind.wrap IntKind.u32 (↑(BitVec.toNat (BitVec.ofInt 32 n4 &&& BitVec.ofInt 32 31)) : Int)) + 257) ∧
 IntKind.wrap IntKind.i64 (IntKind.wrap IntKind.i64 (IntKind.wrap IntKind.u32 (↑(BitVec.toNat (BitVec.ofInt 32 n4 &&& BitVec.ofInt 32 31)) : Int)) + 257) ≤ (↑l30.3 : Int)) ∧
 Calls Tryz.prog (92 : Nat) (Array.mk [Value.slice (subA l30.1 l30.3 0 1) (Int.toNat (IntKind.wrap IntKind.i64 (IntKind.wrap IntKind.i64 (IntKind.wrap IntKind.u32 (↑(BitVec.toNat (BitVec.ofInt 32 n4 &&& BitVec.ofInt 32 31)) : Int)) + 257))) l30.3]) (w31) (fun e60 w61 =>
 ∃ p62 : Option Addr, ∃ n63 : Int, (e60 = Ending.returned (Value.tuple (Array.mk [Value.pointer p62, Value.int IntKind.i64 n63])) ∧
 ((0 ≤ IntKind.wrap IntKind.i64 (IntKind.wrap IntKind.i64 (IntKind.wrap IntKind.u32 (↑(BitVec.toNat (BitVec.ofInt 32 n4 &&& BitVec.ofInt 32 31)) : Int)) + 257) ∧
 IntKind.wrap IntKind.i64 (IntKind.wrap IntKind.i64 (IntKind.wrap IntKind.u32 (↑(BitVec.toNat (BitVec.ofInt 32 n4 &&& BitVec.ofInt 32 31)) : Int)) + 257) ≤ (↑l30.2 : Int)) ∧
 Calls Tryz.prog (92 : Nat) (Array.mk [Value.slice (subA l30.1 l30.3 (Int.toNat (IntKind.wrap IntKind.i64 (IntKind.wrap IntKind.i64 (IntKind.wrap IntKind.u32 (↑(BitVec.toNat (BitVec.ofInt 32 n4 &&& BitVec.ofInt 32 31)) : Int)) + 257))) 1) (l30.2 - Int.toNat (IntKind.wrap IntKind.i64 (IntKind.wrap IntKind.i64 (IntKind.wrap IntKind.u32 (↑(BitVec.toNat (BitVec.ofInt 32 n4 &&& BitVec.ofInt 32 31)) : Int)) + 257))) (l30.3 - Int.toNat (IntKind.wrap IntKind.i64 (IntKind.wrap IntKind.i64 (IntKind.wrap IntKind.u32 (↑(BitVec.toNat (BitVec.ofInt 32 n4 &&& BitVec.ofInt 32 31)) : Int)) + 257)))]) (w61) (fun e64 w65 =>
 ∃ p66 : Option Addr, ∃ n67 : Int, (e64 = Ending.returned (Value.tuple (Array.mk [Value.pointer p66, Value.int IntKind.i64 n67])) ∧
 (((0 : Int) ≤ (256 : Int) ∧
 256 < (↑l30.2 : Int)) ∧
 ∃ a68 : Addr, (l30.1 = some a68 ∧
 ∃ n69 : Int, (World.cell? w65 (Addr.add a68 (Int.toNat 256 * 1)) = some (Value.int IntKind.i64 n69) ∧
 ((((n69 == 0) = true →
 R (Value.tuple (Array.mk [Value.pointer none, Value.pointer none, Value.int IntKind.i64 3])) w65)) ∧
 ((n69 == 0) = false →
 ((((n63 != 0) = true →
 R (Value.tuple (Array.mk [Value.pointer none, Value.pointer none, Value.int IntKind.i64 3])) w65)) ∧
 ((n63 != 0) = false →
 ((((n67 != 0) = true →
 R (Value.tuple (Array.mk [Value.pointer none, Value.pointer none, Value.int IntKind.i64 3])) w65)) ∧
 ((n67 != 0) = false →
 R (Value.tuple (Array.mk [Value.pointer p62, Value.pointer p66, Value.int IntKind.i64 0])) w65)))))))))))))))))))))))))))))))))))))))
theorem vc_inflate_state_tables_ok {x0 : Nat} {w : World} {R : Value → World → Prop} {R' : Ending → World → Prop} (h : vc_inflate_state_tables x0 w R) (hR : ∀ v w', R v w' → R' (.returned v) w') :
    Calls Tryz.prog 105 #[.pointer (some ⟨x0, 0, none⟩)] w R' :=
  calls_of_body (vs := [(.pointer (some ⟨x0, 0, none⟩), true)]) (ty := ty) (ann := ⟨[(35, [(19, .int .i64), (20, .int .i64), (21, .int .i64)])], [(9, [(59, .int .i64)]), (20, [(16, .slice)]), (41, [(16, .slice), (151, .int .i64)])], [], []⟩) (c := Tryz.f105.body.getD .skip) (by kernel_rfl) Tryz.func105 (by kernel_rfl) (by kernel_rfl) (Eq.mp (by kernel_rfl) h) hR
/-- (*inflate.state).repeat -/
def vc_inflate_state_repeat (x0 : Nat) (x1 : Int) (x2 : Nat) (w : World) (R : Value → World → Prop) : Prop :=
 (((decide (x1 > 285) = true →
 R (Value.int IntKind.i64 3) w)) ∧
 (decide (x1 > 285) = false →
 Calls Tryz.prog (67 : Nat) (Array.mk [Value.int IntKind.i64 (IntKind.wrap IntKind.i64 (x1 - 257))]) (w) (fun e1 w2 =>
 ∃ n3 : Int, ∃ n4 : Int, (e1 = Ending.returned (Value.tuple (Array.mk [Value.int IntKind.i64 n3, Value.int IntKind.i64 n4])) ∧
 ∃ p5 : Option Addr, (World.cell? w2 (Addr.mk x0 0 none) = some (Value.pointer p5) ∧
 Calls Tryz.prog (103 : Nat) (Array.mk [Value.pointer p5, Value.int IntKind.i64 n4]) (w2) (fun e6 w7 =>
 ∃ n8 : Int, ∃ b9 : Bool, (e6 = Ending.returned (Value.tuple (Array.mk [Value.int IntKind.u32 n8, Value.bool b9])) ∧
 ((((!b9) = true →
 R (Value.int IntKind.i64 6) w7)) ∧
 ((!b9) = false →
 ∃ p10 : Option Addr, (World.cell? w7 (Addr.mk x0 0 none) = some (Value.pointer p10) ∧
 Calls Tryz.prog (106 : Nat) (Array.mk [Value.pointer (some (Addr.mk x2 0 none)), Value.pointer p10]) (w7) (fun e11 w12 =>
 ∃ n13 : Int, ∃ n14 : Int, (e11 = Ending.returned (Value.tuple (Array.mk [Value.int IntKind.i64 n13, Value.int IntKind.i64 n14])) ∧
 ((((n14 != 0) = true →
 R (Value.int IntKind.i64 n14) w12)) ∧
 ((n14 != 0) = false →
 (((decide (n13 > 29) = true →
 R (Value.int IntKind.i64 3) w12)) ∧
 (decide (n13 > 29) = false →
 Calls Tryz.prog (68 : Nat) (Array.mk [Value.int IntKind.i64 n13]) (w12) (fun e15 w16 =>
 ∃ n17 : Int, ∃ n18 : Int, (e15 = Ending.returned (Value.tuple (Array.mk [Value.int IntKind.i64 n17, Value.int IntKind.i64 n18])) ∧
 ∃ p19 : Option Addr, (World.cell? w16 (Addr.mk x0 0 none) = some (Value.pointer p19) ∧
 Calls Tryz.prog (103 : Nat) (Array.mk [Value.pointer p19, Value.int IntKind.i64 n18]) (w16) (fun e20 w21 =>
 ∃ n22 : Int, ∃ b23 : Bool, (e20 = Ending.returned (Value.tuple (Array.mk [Value.int IntKind.u32 n22, Value.bool b23])) ∧
 ((((!b23) = true →
 R (Value.int IntKind.i64 6) w21)) ∧
 ((!b23) = false →
 ∃ l24 : Sl, (World.cell? w21 (Addr.mk x0 1 none) = some (Value.slice l24.1 l24.2 l24.3) ∧
 (((decide (IntKind.wrap IntKind.i64 (n17 + IntKind.wrap IntKind.i64 n22) > (↑l24.2 : Int)) = true →
 R (Value.int IntKind.i64 3) w21)) ∧
 (decide (IntKind.wrap IntKind.i64 (n17 + IntKind.wrap IntKind.i64 n22) > (↑l24.2 : Int)) = false →
 ∃ I25 : Int → World → Prop, ∃ I26 : Int → World → Nat, (I25 0 w21 ∧
 ∀ n27 : Int,
 ∀ w28 : World,
 (I25 n27 w28 →
 (((decide (n27 < IntKind.wrap IntKind.i64 (n3 + IntKind.wrap IntKind.i64 n8)) = true →
 ∀ w29 : World,
 (Drew w28 w29 →
 ∃ l30 : Sl, (World.cell? w29 (Addr.mk x0 1 none) = some (Value.slice l30.1 l30.2 l30.3) ∧
 ∃ l31 : Sl, (World.cell? w29 (Addr.mk x0 1 none) = some (Value.slice l31.1 l31.2 l31.3) ∧
 ((0 ≤ IntKind.wrap IntKind.i64 ((↑l31.2 : Int) - IntKind.wrap IntKind.i64 (n17 + IntKind.wrap IntKind.i64 n22)) ∧
 IntKind.wrap IntKind.i64 ((↑l31.2 : Int) - IntKind.wrap IntKind.i64 (n17 + IntKind.wrap IntKind.i64 n22)) < (↑l30.2 : Int)) ∧
 ∃ a32 : Addr, (l30.1 = some a32 ∧
 ∃ n33 : Int, (World.cell? w29 (Addr.add a32 (Int.toNat (IntKind.wrap IntKind.i64 ((↑l31.2 : Int) - IntKind.wrap IntKind.i64 (n17 + IntKind.wrap IntKind.i64 n22))) * 1)) = some (Value.int IntKind.u8 n33) ∧
 Calls Tryz.prog (107 : Nat) (Array.mk [Value.pointer (some (Addr.mk x0 0 none)), Value.int IntKind.u8 n33]) (w29) (fun e34 w35 =>
 ∃ n36 : Int, (e34 = Ending.returned (Value.int IntKind.i64 n36) ∧
 ((((n36 != 0) = true →
 R (Value.int IntKind.i64 n36) w35)) ∧
 ((n36 != 0) = false →
 (I25 (IntKind.wrap IntKind.i64 (n27 + 1)) w35 ∧
 I26 (IntKind.wrap IntKind.i64 (n27 + 1)) w35 < I26 n27 w28))))))))))))) ∧
 (decide (n27 < IntKind.wrap IntKind.i64 (n3 + IntKind.wrap IntKind.i64 n8)) = false →
 R (Value.int IntKind.i64 0) w28))))))))))))))))))))))))))))))
theorem vc_inflate_state_repeat_ok {x0 : Nat} {x1 : Int} {x2 : Nat} {w : World} {R : Value → World → Prop} {R' : Ending → World → Prop} (h : vc_inflate_state_repeat x0 x1 x2 w R) (hR : ∀ v w', R v w' → R' (.returned v) w') :
    Calls Tryz.prog 108 #[.pointer (some ⟨x0, 0, none⟩), .int .i64 x1, .pointer (some ⟨x2, 0, none⟩)] w R' :=
  calls_of_body (vs := [(.pointer (some ⟨x0, 0, none⟩), true), (.int .i64 x1, false), (.pointer (some ⟨x2, 0, none⟩), true)]) (ty := ty) (ann := ⟨[], [(21, [(80, .int .i64)])], [(22, .tail 14)], []⟩) (c := Tryz.f108.body.getD .skip) (by kernel_rfl) Tryz.func108 (by kernel_rfl) (by kernel_rfl) (Eq.mp (by kernel_rfl) h) hR
/-- (*inflate.state).run -/
def vc_inflate_state_run (x0 : Nat) (w : World) (R : Value → World → Prop) : Prop :=
 ∃ I1 : World → Prop, ∃ I2 : World → Nat, ∃ I3 : Int → World → Prop, ∃ I4 : Int → World → Nat, ∃ I5 : Int → Option Addr → Option Addr → World → Prop, ∃ I6 : Int → Option Addr → Option Addr → World → Nat, ((∃ p7 : Option Addr, (World.cell? w (Addr.mk x0 0 none) = some (Value.pointer p7) ∧
 Calls Tryz.prog (103 : Nat) (Array.mk [Value.pointer p7, Value.int IntKind.i64 3]) (w) (fun e8 w9 =>
 ∃ n10 : Int, ∃ b11 : Bool, (e8 = Ending.returned (Value.tuple (Array.mk [Value.int IntKind.u32 n10, Value.bool b11])) ∧
 ((((!b11) = true →
 R (Value.int IntKind.i64 6) w9)) ∧
 ((!b11) = false →
 ((0 : Int) ≤ (1 : Int) ∧
 ((((Int.fdiv n10 (2 ^ min (Int.toNat 1) 32) == 0) = true →
 Calls Tryz.prog (104 : Nat) (Array.mk [Value.pointer (some (Addr.mk x0 0 none))]) (w9) (fun e12 w13 =>
 ∃ n14 : Int, (e12 = Ending.returned (Value.int IntKind.i64 n14) ∧
 ((((n14 != 0) = true →
 R (Value.int IntKind.i64 n14) w13)) ∧
 ((n14 != 0) = false →
 I3 n10 w13)))))) ∧
 ((Int.fdiv n10 (2 ^ min (Int.toNat 1) 32) == 0) = false →
 ((((Int.fdiv n10 (2 ^ min (Int.toNat 1) 32) == 1) = true →
 Calls Tryz.prog (62 : Nat) (Array.mk []) (w9) (fun e15 w16 =>
 ∃ p17 : Option Addr, ∃ p18 : Option Addr, (e15 = Ending.returned (Value.tuple (Array.mk [Value.pointer p17, Value.pointer p18])) ∧
 I5 n10 p17 p18 w16)))) ∧
 ((Int.fdiv n10 (2 ^ min (Int.toNat 1) 32) == 1) = false →
 ((((Int.fdiv n10 (2 ^ min (Int.toNat 1) 32) == 2) = true →
 Calls Tryz.prog (105 : Nat) (Array.mk [Value.pointer (some (Addr.mk x0 0 none))]) (w9) (fun e19 w20 =>
 ∃ p21 : Option Addr, ∃ p22 : Option Addr, ∃ n23 : Int, (e19 = Ending.returned (Value.tuple (Array.mk [Value.pointer p21, Value.pointer p22, Value.int IntKind.i64 n23])) ∧
 ((((n23 != 0) = true →
 R (Value.int IntKind.i64 n23) w20)) ∧
 ((n23 != 0) = false →
 I5 n10 p21 p22 w20)))))) ∧
 ((Int.fdiv n10 (2 ^ min (Int.toNat 1) 32) == 2) = false →
 R (Value.int IntKind.i64 3) w9))))))))))))) ∧
 ((∀ w24 : World,
 (I1 w24 →
 ∃ p25 : Option Addr, (World.cell? w24 (Addr.mk x0 0 none) = some (Value.pointer p25) ∧
 Calls Tryz.prog (103 : Nat) (Array.mk [Value.pointer p25, Value.int IntKind.i64 3]) (w24) (fun e26 w27 =>
 ∃ n28 : Int, ∃ b29 : Bool, (e26 = Ending.returned (Value.tuple (Array.mk [Value.int IntKind.u32 n28, Value.bool b29])) ∧
 ((((!b29) = true →
 R (Value.int IntKind.i64 6) w27)) ∧
 ((!b29) = false →
 ((0 : Int) ≤ (1 : Int) ∧
 ((((Int.fdiv n28 (2 ^ min (Int.toNat 1) 32) == 0) = true →
 Calls Tryz.prog (104 : Nat) (Array.mk [Value.pointer (some (Addr.mk x0 0 none))]) (w27) (fun e30 w31 =>
 ∃ n32 : Int, (e30 = Ending.returned (Value.int IntKind.i64 n32) ∧
 ((((n32 != 0) = true →
 R (Value.int IntKind.i64 n32) w31)) ∧
 ((n32 != 0) = false →
 (I3 n28 w31 ∧
 I4 n28 w31 < I2 w24))))))) ∧
 ((Int.fdiv n28 (2 ^ min (Int.toNat 1) 32) == 0) = false →
 ((((Int.fdiv n28 (2 ^ min (Int.toNat 1) 32) == 1) = true →
 Calls Tryz.prog (62 : Nat) (Array.mk []) (w27) (fun e33 w34 =>
 ∃ p35 : Option Addr, ∃ p36 : Option Addr, (e33 = Ending.returned (Value.tuple (Array.mk [Value.pointer p35, Value.pointer p36])) ∧
 (I5 n28 p35 p36 w34 ∧
 I6 n28 p35 p36 w34 < I2 w24))))) ∧
 ((Int.fdiv n28 (2 ^ min (Int.toNat 1) 32) == 1) = false →
 ((((Int.fdiv n28 (2 ^ min (Int.toNat 1) 32) == 2) = true →
 Calls Tryz.prog (105 : Nat) (Array.mk [Value.pointer (some (Addr.mk x0 0 none))]) (w27) (fun e37 w38 =>
 ∃ p39 : Option Addr, ∃ p40 : Option Addr, ∃ n41 : Int, (e37 = Ending.returned (Value.tuple (Array.mk [Value.pointer p39, Value.pointer p40, Value.int IntKind.i64 n41])) ∧
 ((((n41 != 0) = true →
 R (Value.int IntKind.i64 n41) w38)) ∧
 ((n41 != 0) = false →
 (I5 n28 p39 p40 w38 ∧
 I6 n28 p39 p40 w38 < I2 w24))))))) ∧
 ((Int.fdiv n28 (2 ^ min (Int.toNat 1) 32) == 2) = false →
 R (Value.int IntKind.i64 3) w27)))))))))))))) ∧
 ((∀ n42 : Int,
 ∀ w43 : World,
 (I3 n42 w43 →
 ((((IntKind.wrap IntKind.u32 (↑(BitVec.toNat (BitVec.ofInt 32 n42 &&& BitVec.ofInt 32 1)) : Int) == 0) = true →
 (I1 w43 ∧
 I2 w43 < I4 n42 w43))) ∧
 ((IntKind.wrap IntKind.u32 (↑(BitVec.toNat (BitVec.ofInt 32 n42 &&& BitVec.ofInt 32 1)) : Int) == 0) = false →
 R (Value.int IntKind.i64 0) w43)))) ∧
 ((∀ n44 : Int,
 ∀ p45 : Option Addr,
 ∀ p46 : Option Addr,
 ∀ w47 : World,
 (I5 n44 p45 p46 w47 →
 ∃ p48 : Option Addr, (World.cell? w47 (Addr.mk x0 0 none) = some (Value.pointer p48) ∧
 Calls Tryz.prog (106 : Nat) (Array.mk [Value.pointer p45, Value.pointer p48]) (w47) (fun e49 w50 =>
 ∃ n51 : Int, ∃ n52 : Int, (e49 = Ending.returned (Value.tuple (Array.mk [Value.int IntKind.i64 n51, Value.int IntKind.i64 n52])) ∧
 ((((n52 != 0) = true →
 R (Value.int IntKind.i64 n52) w50)) ∧
 ((n52 != 0) = false →
 ((((n51 == 256) = true →
 (I3 n44 w50 ∧
 I4 n44 w50 < I6 n44 p45 p46 w47))) ∧
 ((n51 == 256) = false →
 (((decide (n51 < 256) = true →
 Calls Tryz.prog (107 : Nat) (Array.mk [Value.pointer (some (Addr.mk x0 0 none)), Value.int IntKind.u8 (IntKind.wrap IntKind.u8 n51)]) (w50) (fun e53 w54 =>
 ∃ n55 : Int, (e53 = Ending.returned (Value.int IntKind.i64 n55) ∧
 ((((n55 == 0) = true →
 (I5 n44 p45 p46 w54 ∧
 I6 n44 p45 p46 w54 < I6 n44 p45 p46 w47))) ∧
 ((n55 == 0) = false →
 R (Value.int IntKind.i64 n55) w54)))))) ∧
 (decide (n51 < 256) = false →
 Calls Tryz.prog (108 : Nat) (Array.mk [Value.pointer (some (Addr.mk x0 0 none)), Value.int IntKind.i64 n51, Value.pointer p46]) (w50) (fun e56 w57 =>
 ∃ n58 : Int, (e56 = Ending.returned (Value.int IntKind.i64 n58) ∧
 ((((n58 == 0) = true →
 (I5 n44 p45 p46 w57 ∧
 I6 n44 p45 p46 w57 < I6 n44 p45 p46 w47))) ∧
 ((n58 == 0) = false →
 R (Value.int IntKind.i64 n58) w57))))))))))))))) ∧
 True))))
theorem vc_inflate_state_run_ok {x0 : Nat} {w : World} {R : Value → World → Prop} {R' : Ending → World → Prop} (h : vc_inflate_state_run x0 w R) (hR : ∀ v w', R v w' → R' (.returned v) w') :
    Calls Tryz.prog 88 #[.pointer (some ⟨x0, 0, none⟩)] w R' :=
  calls_of_body (vs := [(.pointer (some ⟨x0, 0, none⟩), true)]) (ty := ty) (ann := ⟨[], [], [], [(0, []), (1, [(3, .int .u32)]), (2, [(3, .int .u32), (7, .ptr), (8, .ptr)])]⟩) (c := Tryz.f88.body.getD .skip) (by kernel_rfl) Tryz.func88 (by kernel_rfl) (by kernel_rfl) (Eq.mp (by kernel_rfl) h) hR
/-- inflate.Inflate -/
def vc_inflate_Inflate (x0 : ByteArray) (x1 : Int) (x2 : Int) (w : World) (R : Value → World → Prop) : Prop :=
 (((decide (x1 < 0) = true →
 R (Value.tuple (Array.mk [Value.string (ByteArray.mk (Array.mk [])), Value.int IntKind.i64 0, Value.int IntKind.i64 1])) w)) ∧
 (decide (x1 < 0) = false →
 (((decide (x1 > (↑(ByteArray.size x0) : Int)) = true →
 R (Value.tuple (Array.mk [Value.string (ByteArray.mk (Array.mk [])), Value.int IntKind.i64 0, Value.int IntKind.i64 1])) w)) ∧
 (decide (x1 > (↑(ByteArray.size x0) : Int)) = false →
 (((decide (x2 < 0) = true →
 R (Value.tuple (Array.mk [Value.string (ByteArray.mk (Array.mk [])), Value.int IntKind.i64 0, Value.int IntKind.i64 1])) w)) ∧
 (decide (x2 < 0) = false →
 (((decide (x2 > 65536) = true →
 R (Value.tuple (Array.mk [Value.string (ByteArray.mk (Array.mk [])), Value.int IntKind.i64 0, Value.int IntKind.i64 1])) w)) ∧
 (decide (x2 > 65536) = false →
 Calls Tryz.prog (87 : Nat) (Array.mk [Value.string x0, Value.int IntKind.i64 x1]) (w) (fun e1 w2 =>
 ∃ p3 : Option Addr, (e1 = Ending.returned (Value.pointer p3) ∧
 ∀ w4 : World,
 (w4 = World.alloc w2 (Obj.cells (Array.mk [Value.pointer p3, Value.slice none 0 0, Value.int IntKind.i64 x2]) 138) →
 Calls Tryz.prog (88 : Nat) (Array.mk [Value.pointer (some (Addr.mk (Array.size (World.heap w2)) 0 none))]) (w4) (fun e5 w6 =>
 ∃ n7 : Int, (e5 = Ending.returned (Value.int IntKind.i64 n7) ∧
 ((((n7 != 0) = true →
 R (Value.tuple (Array.mk [Value.string (ByteArray.mk (Array.mk [])), Value.int IntKind.i64 0, Value.int IntKind.i64 n7])) w6)) ∧
 ((n7 != 0) = false →
 ∀ w8 : World,
 (Drew w6 w8 →
 ∃ I9 : World → Prop, (I9 w8 ∧
 ∃ l10 : Sl, ((∀ w11 : World,
 (I9 w11 →
 World.cell? w11 (Addr.mk (Array.size (World.heap w2)) 1 none) = some (Value.slice l10.1 l10.2 l10.3))) ∧
 ∃ p12 : Option Addr, ((∀ w13 : World,
 (I9 w13 →
 World.cell? w13 (Addr.mk (Array.size (World.heap w2)) 0 none) = some (Value.pointer p12))) ∧
 ∃ s14 : ByteArray, ((∀ w15 : World,
 (I9 w15 →
 Sem.run Tryz.prog (convert 60 9 (Value.slice l10.1 l10.2 l10.3)) w15 = Result.ok (Value.string s14) w15)) ∧
 Calls Tryz.prog (89 : Nat) (Array.mk [Value.pointer p12]) (w8) (fun e16 w17 =>
 ∃ n18 : Int, (e16 = Ending.returned (Value.int IntKind.i64 n18) ∧
 (I9 w17 ∧
 R (Value.tuple (Array.mk [Value.string s14, Value.int IntKind.i64 n18, Value.int IntKind.i64 0])) w17)))))))))))))))))))))))
theorem vc_inflate_Inflate_ok {x0 : ByteArray} {x1 : Int} {x2 : Int} {w : World} {R : Value → World → Prop} {R' : Ending → World → Prop} (h : vc_inflate_Inflate x0 x1 x2 w R) (hR : ∀ v w', R v w' → R' (.returned v) w') :
    Calls Tryz.prog 59 #[.string x0, .int .i64 x1, .int .i64 x2] w R' :=
  calls_of_body (vs := [(.string x0, false), (.int .i64 x1, false), (.int .i64 x2, false)]) (ty := ty) (ann := ⟨[], [], [(7, .held [(0, true), (1, true), (2, true), (3, true), (5, true), (6, true), (7, true), (8, true), (4, true), (9, false), (10, true), (11, true), (12, true)])], []⟩) (c := Tryz.f59.body.getD .skip) (by kernel_rfl) Tryz.func59 (by kernel_rfl) (by kernel_rfl) (Eq.mp (by kernel_rfl) h) hR
end Go.Proofs.YtaaimcbicpgjoaaGreatDoor

/- The inflater of the program answers as the model does. Conditions: the state is in order; the text is no longer than a slice may be. -/
set_option linter.unusedVariables false
namespace Go.Proofs.YtaaimcbicpgjoaaGreatDoor
open Go Vc BitsM HuffM Go.Proofs

/-- A number out of bytes, lowest first. -/
theorem little_spec (s : ByteArray) (hs : s.size ≤ 8) (w : World) :
    Calls Tryz.prog F_sums_FromLittle #[.string s] w fun e w' => e = .returned (.int .u64 ((V s s.size : Nat) : Int)) ∧ w' = w := by
  refine vc_sums_FromLittle_ok (R := fun v w' => v = .int .u64 ((V s s.size : Nat) : Int) ∧ w' = w) ?_ (fun v w' h => ⟨by rw [h.1], h.2⟩)
  have hlim : (if 8 < (s.size : Int) then 8 else (s.size : Int)) = (s.size : Int) := by rw [if_neg (by omega)]
  refine ⟨fun a i w5 => ∃ n : Nat, i = (n : Int) ∧ n ≤ s.size ∧ a = ((V s n : Nat) : Int) ∧ w5 = w, fun a i w5 => s.size - i.toNat, ⟨0, rfl, Nat.zero_le _, rfl, rfl⟩, ?_⟩
  rintro a i w5 ⟨n, rfl, hn, rfl, rfl⟩
  rw [hlim]
  refine ⟨fun hlt => ?_, fun hge => ?_⟩
  · have hlt := of_decide_eq_true hlt
    have hv := V_lt s n
    have hb := byt_lt s n
    have hp : 2 ^ (8 * n) ≤ 2 ^ 56 := Nat.pow_le_pow_right (by decide) (by omega)
    have hor := held_or s n 0 (Nat.zero_le _)
    simp only [held, Nat.pow_zero, Nat.div_one, Nat.sub_zero] at hor
    have e1 : IntKind.i64.wrap (8 * (n : Int)) = ((8 * n : Nat) : Int) := by rw [wrap_i64 (by omega) (by omega)]; omega
    have hm : min ((8 * n : Nat) : Int).toNat 64 = 8 * n := by omega
    have hc : (2 : Int) ^ (8 * n) = ((2 ^ (8 * n) : Nat) : Int) := by push_cast; rfl
    have hmul : byt s n * 2 ^ (8 * n) ≤ 255 * 2 ^ 56 := Nat.mul_le_mul (by omega) hp
    have e2 : IntKind.u64.wrap (((BitVec.ofInt 64 ((V s n : Nat) : Int) ||| BitVec.ofInt 64 (IntKind.u64.wrap (IntKind.u64.wrap (byteAt s (n : Int)) * 2 ^ min (IntKind.i64.wrap (8 * (n : Int))).toNat 64))).toNat : Nat) : Int) = ((V s (n + 1) : Nat) : Int) := by
      have hv2 := V_lt s (n + 1)
      have hp2 : 2 ^ (8 * (n + 1)) ≤ 2 ^ 64 := Nat.pow_le_pow_right (by decide) (by omega)
      rw [e1, hm, byteAt_nat, wrap_u64 (x := ((byt s n : Nat) : Int)) (by omega) (by omega), hc, ← Int.natCast_mul, wrap_u64 (x := ((byt s n * 2 ^ (8 * n) : Nat) : Int)) (by omega) (by omega),
        or_nat 64 _ _ (by omega) (by omega), hor, wrap_u64 (by omega) (by omega)]
    refine ⟨⟨by omega, by omega⟩, by rw [e1]; omega, ?_⟩
    rw [e2]
    have e3 : IntKind.i64.wrap ((n : Int) + 1) = ((n + 1 : Nat) : Int) := by rw [wrap_i64 (by omega) (by omega)]; omega
    rw [e3]
    exact ⟨⟨n + 1, rfl, by omega, rfl, rfl⟩, by dsimp only; omega⟩
  · have hge := of_decide_eq_false hge
    have : n = s.size := by omega
    subst this
    exact ⟨rfl, rfl⟩

def orderV : Value := .agg #[.int .i64 16, .int .i64 17, .int .i64 18, .int .i64 0, .int .i64 8, .int .i64 7, .int .i64 9, .int .i64 6, .int .i64 10, .int .i64 5, .int .i64 11, .int .i64 4, .int .i64 12, .int .i64 3, .int .i64 13, .int .i64 2, .int .i64 14, .int .i64 1, .int .i64 15]
theorem lbase_spec (i : Nat) (hi : i ≤ 28) (w : World) :
    Calls Tryz.prog F_inflate_lengthBase #[.int .i64 i] w fun e w' => e = .returned (.tuple #[.int .i64 (((InfM.lenBase i).1 : Nat) : Int), .int .i64 (((InfM.lenBase i).2 : Nat) : Int)]) ∧ w' = w := by
  refine vc_inflate_lengthBase_ok (R := fun v w' => v = .tuple #[.int .i64 (((InfM.lenBase i).1 : Nat) : Int), .int .i64 (((InfM.lenBase i).2 : Nat) : Int)] ∧ w' = w) ?_ (fun v w' h => ⟨by rw [h.1], h.2⟩)
  have hall : ∀ i, i ≤ 28 → (i = 28 → InfM.lenBase i = (258, 0)) ∧ (i ≠ 28 → i < 8 → InfM.lenBase i = (3 + i, 0)) ∧ (i ≠ 28 → ¬ i < 8 →
      (0 : Int) ≤ IntKind.i64.wrap (IntKind.i64.wrap (Int.tdiv (i : Int) 4) - 1) ∧
      IntKind.i64.wrap (3 + IntKind.i64.wrap (IntKind.i64.wrap (4 + Int.tmod (i : Int) 4) * 2 ^ min (IntKind.i64.wrap (IntKind.i64.wrap (Int.tdiv (i : Int) 4) - 1)).toNat 64)) = (((InfM.lenBase i).1 : Nat) : Int) ∧
      IntKind.i64.wrap (IntKind.i64.wrap (Int.tdiv (i : Int) 4) - 1) = (((InfM.lenBase i).2 : Nat) : Int)) := by decide +kernel
  obtain ⟨h1, h2, h3⟩ := hall i hi
  refine ⟨fun h => ?_, fun h => ⟨fun h' => ?_, fun h' => ?_⟩⟩
  · have : i = 28 := by have := eq_of_beq h; omega
    rw [h1 this]; exact ⟨rfl, rfl⟩
  · have hn : i ≠ 28 := fun hh => by subst hh; simp at h
    have hl : i < 8 := by have := of_decide_eq_true h'; omega
    rw [h2 hn hl, wrap_i64 (by omega) (by omega)]
    exact ⟨by simp, rfl⟩
  · have hn : i ≠ 28 := fun hh => by subst hh; simp at h
    have hl : ¬ i < 8 := by have := of_decide_eq_false h'; omega
    obtain ⟨ha, hb, hc⟩ := h3 hn hl
    refine ⟨by decide, by decide, ha, ?_⟩
    rw [hb, hc]; exact ⟨rfl, rfl⟩
theorem dbase_spec (i : Nat) (hi : i ≤ 29) (w : World) :
    Calls Tryz.prog F_inflate_distBase #[.int .i64 i] w fun e w' => e = .returned (.tuple #[.int .i64 (((InfM.distBase i).1 : Nat) : Int), .int .i64 (((InfM.distBase i).2 : Nat) : Int)]) ∧ w' = w := by
  refine vc_inflate_distBase_ok (R := fun v w' => v = .tuple #[.int .i64 (((InfM.distBase i).1 : Nat) : Int), .int .i64 (((InfM.distBase i).2 : Nat) : Int)] ∧ w' = w) ?_ (fun v w' h => ⟨by rw [h.1], h.2⟩)
  have hall : ∀ i, i ≤ 29 → (i < 4 → InfM.distBase i = (1 + i, 0)) ∧ (¬ i < 4 →
      (0 : Int) ≤ IntKind.i64.wrap (IntKind.i64.wrap (Int.tdiv (i : Int) 2) - 1) ∧
      IntKind.i64.wrap (1 + IntKind.i64.wrap (IntKind.i64.wrap (2 + Int.tmod (i : Int) 2) * 2 ^ min (IntKind.i64.wrap (IntKind.i64.wrap (Int.tdiv (i : Int) 2) - 1)).toNat 64)) = (((InfM.distBase i).1 : Nat) : Int) ∧
      IntKind.i64.wrap (IntKind.i64.wrap (Int.tdiv (i : Int) 2) - 1) = (((InfM.distBase i).2 : Nat) : Int)) := by decide +kernel
  obtain ⟨h2, h3⟩ := hall i hi
  refine ⟨fun h' => ?_, fun h' => ?_⟩
  · have hl : i < 4 := by have := of_decide_eq_true h'; omega
    rw [h2 hl, wrap_i64 (by omega) (by omega)]
    exact ⟨by simp, rfl⟩
  · have hl : ¬ i < 4 := by have := of_decide_eq_false h'; omega
    obtain ⟨ha, hb, hc⟩ := h3 hl
    refine ⟨by decide, by decide, ha, ?_⟩
    rw [hb, hc]; exact ⟨rfl, rfl⟩

/-- A stream that is being read, in order: what came out, the place. -/
structure St (w : World) (base b rb : Nat) (sl : Sl) (s : ByteArray) (off p : Nat) (out : List UInt8) (most : Nat) : Prop where
  blk : w.heap[b]? = some (.cells #[.pointer (some ⟨rb, 0, none⟩), .slice sl.a sl.len sl.cap, .int .i64 (most : Int)] T_inflate_state (0, 0))
  own : Vc.Own w base T_uint8 sl (byteV out)
  rd : Rd w rb s (8 * off + p) off
  hb : b < base
  hrb : rb < base
  ne : rb ≠ b
  hbase : base ≤ w.heap.size
  fit : out.length ≤ most
  small : most ≤ 65536
/-- The blocks that are written. -/
def SX (b rb : Nat) (sl : Sl) (k : Nat) : Prop := k = b ∨ k = rb ∨ At sl k
section
variable {w w2 : World} {base b rb off p most : Nat} {sl : Sl} {s : ByteArray} {out : List UInt8}
theorem St.c0 (h : St w base b rb sl s off p out most) : w.cell? ⟨b, 0, none⟩ = some (.pointer (some ⟨rb, 0, none⟩)) := by rw [cell_blk h.blk]; rfl
theorem St.c1 (h : St w base b rb sl s off p out most) : w.cell? ⟨b, 1, none⟩ = some (.slice sl.a sl.len sl.cap) := by rw [cell_blk h.blk]; rfl
theorem St.c2 (h : St w base b rb sl s off p out most) : w.cell? ⟨b, 2, none⟩ = some (.int .i64 (most : Int)) := by rw [cell_blk h.blk]; rfl
theorem St.len (h : St w base b rb sl s off p out most) : sl.len = out.length := by rw [h.own.len, List.length_map]
/-- The reader went on. -/
theorem St.read (h : St w base b rb sl s off p out most) {p' : Nat} (hf : Fr (· = rb) w w2) (hr : Rd w2 rb s (8 * off + p') off) : St w2 base b rb sl s off p' out most :=
  ⟨hf.keep h.blk (fun e => h.ne e.symm), h.own.keep hf (fun x hx e => by have := (h.own.blk hx).1; have := h.hrb; omega), hr, h.hb, h.hrb, h.ne, Nat.le_trans h.hbase hf.size, h.fit, h.small⟩
theorem St.keep (h : St w base b rb sl s off p out most) {X : Nat → Prop} (hf : Fr X w w2) (hx : ∀ k, k < w.heap.size → ¬ X k) : St w2 base b rb sl s off p out most :=
  ⟨hf.keep h.blk (hx _ (lt_blk h.blk)), h.own.keep hf (fun x hxx => hx _ (h.own.blk hxx).2), h.rd.keep hf (hx _ h.rd.lt), h.hb, h.hrb, h.ne, Nat.le_trans h.hbase hf.size, h.fit, h.small⟩
theorem St.drew (h : St w base b rb sl s off p out most) (d : Drew w w2) : St w2 base b rb sl s off p out most := h.keep (.drew (fun _ => False) d) (by simp)
/-- Bytes more. -/
theorem St.more (h : St w base b rb sl s off p out most) {sl' : Sl} {out' : List UInt8} {w3 : World} (ho : Vc.Own w2 base T_uint8 sl' (byteV out')) (hf : Fr (At sl) w w2) (h3 : w3 = w2.setCell ⟨b, 1, none⟩ (.slice sl'.a sl'.len sl'.cap)) (hfit : out'.length ≤ most) :
    Wr w2 ⟨b, 1, none⟩ ∧ St w3 base b rb sl' s off p out' most ∧ Fr (SX b rb sl) w w3 := by
  have hnb : ¬ At sl b := fun ⟨y, hy, e⟩ => by have := (h.own.blk hy).1; have := h.hb; omega
  have hnr : ¬ At sl rb := fun ⟨y, hy, e⟩ => by have := (h.own.blk hy).1; have := h.hrb; omega
  have hb2 := hf.keep h.blk hnb
  have hs : Fr (· = b) w2 w3 := h3 ▸ Fr.set (· = b) _ (a := ⟨b, 1, none⟩) (.slice sl'.a sl'.len sl'.cap) rfl
  refine ⟨wr_blk hb2 (by simp), ⟨?_, ho.keep hs (fun x hx e => by have := (ho.blk hx).1; have := h.hb; omega), (h.rd.keep hf hnr).keep hs h.ne, h.hb, h.hrb, h.ne, Nat.le_trans h.hbase (Nat.le_trans hf.size hs.size), hfit, h.small⟩,
    (hf.mono (Y := SX b rb sl) fun k _ hk => .inr (.inr hk)).trans' (hs.mono fun k _ hk => .inl hk)⟩
  rw [h3]; exact set_blk hb2 1 _
end
end Go.Proofs.YtaaimcbicpgjoaaGreatDoor
namespace Go.Proofs.YtaaimcbicpgjoaaGreatDoor
open Go Vc BitsM HuffM Go.Proofs

/-- What a step of the inflater comes to. -/
def Rs (w w' : World) (base b rb : Nat) (sl : Sl) (s : ByteArray) (off most : Nat) (r : InfM.E (List UInt8)) (err : Int) : Prop :=
  Fr (SX b rb sl) w w' ∧ match r with
  | .error e => err = (e : Int) ∧ e ≠ 0
  | .ok (out, p) => err = 0 ∧ ∃ sl', St w' base b rb sl' s off p out most ∧ Since w sl sl'
theorem iv_snoc (l : List Int) (x : Int) : iv l ++ [.int .i64 x] = iv (l ++ [x]) := by simp [iv]
theorem put_spec {w : World} {base b rb off p most c : Nat} {sl : Sl} {s : ByteArray} {out : List UInt8} (h : St w base b rb sl s off p out most) (hc : c < 256) :
    Calls Tryz.prog F_inflate_state_put #[.pointer (some ⟨b, 0, none⟩), .int .u8 (c : Int)] w fun e w' =>
      ∃ err : Int, e = .returned (.int .i64 err) ∧ Rs w w' base b rb sl s off most (if out.length = most then .error 2 else .ok (out ++ [UInt8.ofNat c], p)) err := by
  refine vc_inflate_state_put_ok (R := fun v w' => ∃ err : Int, v = .int .i64 err ∧ Rs w w' base b rb sl s off most (if out.length = most then .error 2 else .ok (out ++ [UInt8.ofNat c], p)) err) ?_ (fun v w' ⟨e, h⟩ => ⟨e, by rw [h.1], h.2⟩)
  have hl := h.len
  refine ⟨_, h.c1, _, h.c2, fun w3 d => ⟨fun heq => ?_, fun hne => ?_⟩⟩
  · have : out.length = most := by have := eq_of_beq heq; omega
    rw [if_pos this]
    exact ⟨2, rfl, .drew _ d, rfl, by decide⟩
  · have hne : ¬ out.length = most := fun hh => by rw [hl, hh] at hne; simp at hne
    rw [if_neg hne]
    have h3 := h.drew d
    have hfit := h.fit
    have hsm := h.small
    refine ⟨_, h3.c1, fun w5 h5 => ?_⟩
    have hbl : (byteV out).length = out.length := List.length_map _
    obtain ⟨w6, l7, hr, ho, hf, hs⟩ := append_one' elByte h3.own (v := .int .u8 (c : Int)) rfl (by rw [hbl]; unfold maxLen; omega) (by rw [hbl]; omega) h3.hbase h5
    rw [byteV_snoc out c hc] at ho
    refine ⟨w6, l7, hr, ?_⟩
    obtain ⟨hw, _, _⟩ := h3.more ho hf rfl (by rw [List.length_append]; simp; omega)
    refine ⟨hw, fun w8 h8 => ?_⟩
    obtain ⟨_, hst, hfr⟩ := h3.more ho hf h8 (by rw [List.length_append]; simp; omega)
    exact ⟨0, rfl, (Fr.drew _ d).trans' hfr, rfl, l7, hst, fun y hy => by have := hs y hy; rw [d.heap] at this; exact this⟩

theorem Tab.wide {w : World} {lo hi lo' hi' b : Nat} {ls : List Nat} (h : Tab w lo hi b ls) (h1 : lo' ≤ lo) (h2 : hi ≤ hi') : Tab w lo' hi' b ls := by
  obtain ⟨l1, l2, ht, hb, hh⟩ := h.at_
  exact ⟨h.fits, h.gap, h.small, l1, l2, ⟨Nat.le_trans h1 ht.hlo, ht.blk, ht.o1.mono h1, ht.b1, ht.o2⟩, by omega, fun x hx => by have := hh x hx; omega⟩

def fixN (i : Nat) : Nat := if i < 144 ∨ 280 ≤ i then 8 else if i < 256 then 9 else 7
theorem fixedLit_eq : InfM.fixedLit = (List.range 288).map fixN := by decide +kernel
theorem fixedDist_eq : InfM.fixedDist = (List.range 32).map fun _ => 5 := by decide +kernel
theorem fixedLit_chk : InfM.chkN InfM.fixedLit = 0 := by unfold InfM.chkN; decide +kernel
theorem fixedDist_chk : InfM.chkN InfM.fixedDist = 0 := by unfold InfM.chkN; decide +kernel
theorem range_snoc (f : Nat → Int) (n : Nat) : iv ((List.range n).map f) ++ [.int .i64 (f n)] = iv ((List.range (n + 1)).map f) := by
  rw [iv_snoc, List.range_succ, List.map_append]; rfl

/-- The tables of a fixed block. -/
theorem fixed_spec (w : World) : Calls Tryz.prog F_inflate_fixed #[] w fun e w' =>
    ∃ lb db, e = .returned (.tuple #[.pointer (some ⟨lb, 0, none⟩), .pointer (some ⟨db, 0, none⟩)]) ∧ Tab w' w.heap.size w'.heap.size lb InfM.fixedLit ∧ Tab w' w.heap.size w'.heap.size db InfM.fixedDist ∧ Fr (fun _ => False) w w' := by
  refine vc_inflate_fixed_ok (R := fun v w' => ∃ lb db, v = .tuple #[.pointer (some ⟨lb, 0, none⟩), .pointer (some ⟨db, 0, none⟩)] ∧ Tab w' w.heap.size w'.heap.size lb InfM.fixedLit ∧ Tab w' w.heap.size w'.heap.size db InfM.fixedDist ∧ Fr (fun _ => False) w w') ?_ (fun v w' ⟨lb, db, h⟩ => ⟨lb, db, by rw [h.1], h.2⟩)
  have step : ∀ {w8 : World} {l3 : Sl} {n : Nat} (f : Nat → Int), Vc.Own w8 w.heap.size T_int l3 (iv ((List.range n).map f)) → w.heap.size ≤ w8.heap.size → n ≤ 400 → ∀ z, f n = z → ∀ w9, w9 = w8.alloc (.cells #[.int .i64 z] T_int) →
      ∃ w10 l11, (Builtin.append_ #[T_S_int, T_S_int] T_S_int #[.slice l3.a l3.len l3.cap, .slice (some ⟨w8.heap.size, 0, none⟩) 1 1]).run Tryz.prog w9 = .ok (.slice l11.a l11.len l11.cap) w10 ∧ Vc.Own w10 w.heap.size T_int l11 (iv ((List.range (n + 1)).map f)) ∧ Fr (At l3) w8 w10 := by
    intro w8 l3 n f ho hs hn z hz w9 h9
    obtain ⟨w10, l11, hr, ho2, hf2, _⟩ := append_one' elInt ho (v := .int .i64 z) rfl (by simp [maxLen]; omega) (by simp; omega) hs h9
    rw [← hz, range_snoc] at ho2
    exact ⟨w10, l11, hr, ho2, hf2⟩
  have elim : ∀ {w8 w10 : World} {l3 : Sl} {xs : List Value}, Vc.Own w8 w.heap.size T_int l3 xs → Fr (fun _ => False) w w8 → Fr (At l3) w8 w10 → Fr (fun _ => False) w w10 := fun ho hf hf2 => hf.trans hf2 (fun k hk ⟨y, hy, e⟩ => by have := (ho.blk hy).1; omega)
  refine ⟨fun l i w5 => ∃ n : Nat, i = (n : Int) ∧ n ≤ 288 ∧ Vc.Own w5 w.heap.size T_int l (iv ((List.range n).map fun k => (fixN k : Int))) ∧ Fr (fun _ => False) w w5, fun l i w5 => 288 - i.toNat, ⟨0, rfl, by omega, .nil _ _ _, .refl _ _⟩, ?_⟩
  rintro l3 i w5 ⟨n, rfl, hn, ho, hf⟩
  have e3 : IntKind.i64.wrap ((n : Int) + 1) = ((n + 1 : Nat) : Int) := by rw [wrap_i64 (by omega) (by omega)]; omega
  rw [e3]
  refine ⟨fun hlt => ?_, fun hge => ?_⟩
  · have hlt := of_decide_eq_true hlt
    have key : ∀ z : Int, (fixN n : Int) = z → ∀ w9, w9 = w5.alloc (.cells #[.int .i64 z] T_int) →
        ∃ w10 l11, (Builtin.append_ #[T_S_int, T_S_int] T_S_int #[.slice l3.a l3.len l3.cap, .slice (some ⟨w5.heap.size, 0, none⟩) 1 1]).run Tryz.prog w9 = .ok (.slice l11.a l11.len l11.cap) w10 ∧
          ((∃ m : Nat, ((n + 1 : Nat) : Int) = (m : Int) ∧ m ≤ 288 ∧ Vc.Own w10 w.heap.size T_int l11 (iv ((List.range m).map fun k => (fixN k : Int))) ∧ Fr (fun _ => False) w w10) ∧ 288 - (((n + 1 : Nat) : Int)).toNat < 288 - ((n : Int)).toNat) := fun z hz w9 h9 => by
      obtain ⟨w10, l11, hr, ho2, hf2⟩ := step (fun k => (fixN k : Int)) ho hf.size (by omega) z hz w9 h9
      exact ⟨w10, l11, hr, ⟨n + 1, rfl, by omega, ho2, elim ho hf hf2⟩, by omega⟩
    refine ⟨fun c w8 => w8 = w5 ∧ (c = true ↔ (n < 144 ∨ 280 ≤ n)), ⟨fun h1 => ⟨rfl, ?_⟩, fun h1 => ⟨rfl, ?_⟩⟩, ?_⟩
    · have h1' := of_decide_eq_true h1
      rw [h1]; exact ⟨fun _ => by omega, fun _ => rfl⟩
    · have h1' := of_decide_eq_false h1
      rw [decide_eq_true_eq]; omega
    · rintro c w8 ⟨rfl, hc⟩
      refine ⟨fun h1 => ?_, fun h1 => ⟨fun h2 => ?_, fun h2 => ?_⟩⟩
      · exact key 8 (by unfold fixN; rw [if_pos (hc.1 h1)]; rfl)
      · have h2 := of_decide_eq_true h2
        exact key 9 (by unfold fixN; rw [if_neg (fun h => by rw [hc.2 h] at h1; cases h1), if_pos (by omega)]; rfl)
      · have h2 := of_decide_eq_false h2
        exact key 7 (by unfold fixN; rw [if_neg (fun h => by rw [hc.2 h] at h1; cases h1), if_neg (by omega)]; rfl)
  · have hge := of_decide_eq_false hge
    have hn8 : n = 288 := by omega
    have hol : Vc.Own w5 w.heap.size T_int l3 (iv (InfM.fixedLit.map Int.ofNat)) := by
      rw [fixedLit_eq, List.map_map]; rw [hn8] at ho; exact ho
    have hll : l3.len = 288 := by rw [ho.len, hn8]; simp
    clear ho
    refine ⟨fun l i w5' => ∃ n : Nat, i = (n : Int) ∧ n ≤ 32 ∧ Vc.Own w5' w5.heap.size T_int l (iv ((List.range n).map fun _ => (5 : Int))) ∧ Fr (fun _ => False) w5 w5', fun l i w5 => 32 - i.toNat, ⟨0, rfl, by omega, .nil _ _ _, .refl _ _⟩, ?_⟩
    rintro l20 i w22 ⟨m, rfl, hm, ho, hf2⟩
    have e3 : IntKind.i64.wrap ((m : Int) + 1) = ((m + 1 : Nat) : Int) := by rw [wrap_i64 (by omega) (by omega)]; omega
    rw [e3]
    refine ⟨fun hlt w23 h23 => ?_, fun hge => ?_⟩
    · have hlt := of_decide_eq_true hlt
      obtain ⟨w10, l11, hr, ho2, hf3, _⟩ := append_one' elInt ho (v := .int .i64 5) rfl (by simp [maxLen]; omega) (by simp; omega) hf2.size h23
      rw [range_snoc (fun _ => (5 : Int))] at ho2
      exact ⟨w10, l11, hr, ⟨m + 1, rfl, by omega, ho2, hf2.trans hf3 (fun k hk ⟨y, hy, e⟩ => by have := (ho.blk hy).1; omega)⟩, by dsimp only; omega⟩
    · have hge := of_decide_eq_false hge
      have hm8 : m = 32 := by omega
      have hod : Vc.Own w22 w5.heap.size T_int l20 (iv (InfM.fixedDist.map Int.ofNat)) := by
        rw [fixedDist_eq, List.map_map]; rw [hm8] at ho; exact ho
      have hld : l20.len = 32 := by rw [ho.len, hm8]; simp
      have h1 := fixedLit_chk
      have h2 := fixedDist_chk
      have g1 : (InfM.fixedLit.map Int.ofNat).length = 288 := by rw [fixedLit_eq]; simp
      have g2 : (InfM.fixedDist.map Int.ofNat).length = 32 := by rw [fixedDist_eq]; simp
      unfold InfM.chkN at h1 h2
      have t1 : ∀ l : List Nat, (l.map Int.ofNat).map Int.toNat = l := fun l => by simp [List.map_map, Function.comp_def]
      generalize InfM.fixedLit = LL at hol h1 g1 ⊢
      generalize InfM.fixedDist = DD at hod h2 g2 ⊢
      have hol2 := hol.keep hf2 (by simp)
      refine (hnew_spec hol2.reads (n := l3.len) (by rw [hll, g1]) (fun x hx => (hol2.blk hx).2)).mono ?_
      rintro e w27 ⟨⟨hc, rfl⟩ | ⟨hc, lb, rfl, ht⟩, hf27⟩
      · exact absurd h1 hc
      refine ⟨_, _, rfl, ?_⟩
      have hod2 := hod.keep hf27 (by simp)
      refine (hnew_spec hod2.reads (n := l20.len) (by rw [hld, g2]) (fun x hx => (hod2.blk hx).2)).mono ?_
      rintro e w31 ⟨⟨hc', rfl⟩ | ⟨hc', db, rfl, ht2⟩, hf31⟩
      · exact absurd h2 hc'
      rw [t1] at ht ht2
      have z1 := hf.size; have z2 := hf2.size; have z3 := hf27.size; have z4 := hf31.size
      exact ⟨_, _, rfl, lb, db, rfl, (ht.keep hf31 (by simp)).wide (by omega) (by omega), ht2.wide (by omega) (Nat.le_refl _), ((hf.trans' hf2).trans' hf27).trans' hf31⟩
end Go.Proofs.YtaaimcbicpgjoaaGreatDoor
namespace Go.Proofs.YtaaimcbicpgjoaaGreatDoor
open Go Vc BitsM HuffM Go.Proofs

/-- The bits from a byte on. -/
abbrev bitsFrom (s : ByteArray) (off : Nat) : List Bool := (sbits s.data.toList).drop (8 * off)
section
variable {w w2 : World} {base b rb off p most : Nat} {sl : Sl} {s : ByteArray} {out : List UInt8}
theorem St.le (h : St w base b rb sl s off p out most) : p + 8 * off ≤ 8 * s.size := by have := h.rd.pos_le; omega
theorem bitsFrom_length (s : ByteArray) (off : Nat) : (bitsFrom s off).length = 8 * s.size - 8 * off := by
  rw [List.length_drop, sbits_length]; simp
theorem bitsFrom_drop (s : ByteArray) (off p : Nat) : (bitsFrom s off).drop p = (sbits s.data.toList).drop (8 * off + p) := List.drop_drop
/-- The next bits. -/
theorem stbits_spec (h : St w base b rb sl s off p out most) {n : Nat} (hn : n ≤ 32) :
    Calls Tryz.prog F_bitin_Reader_Bits #[.pointer (some ⟨rb, 0, none⟩), .int .i64 n] w fun e w' =>
      Fr (· = rb) w w' ∧ ((∃ v p' : Nat, InfM.take (bitsFrom s off) n p = .ok (v, p') ∧ v < 2 ^ n ∧ p' = p + n ∧ e = .returned (.tuple #[.int .u32 (v : Int), .bool true]) ∧ St w' base b rb sl s off p' out most) ∨
        (InfM.take (bitsFrom s off) n p = .error 6 ∧ e = .returned (.tuple #[.int .u32 0, .bool false]))) := by
  refine (rbits_spec h.rd hn).mono ?_
  rintro e w' ⟨rfl, hr, hf⟩
  refine ⟨hf, ?_⟩
  have hle := h.le
  have hlen := bitsFrom_length s off
  have hleft : left s (8 * off + p) = 8 * s.size - (8 * off + p) := rfl
  by_cases hy : n ≤ left s (8 * off + p)
  · rw [if_pos hy] at hr ⊢
    refine .inl ⟨nbits s (8 * off + p) n, p + n, ?_, ?_, rfl, by rw [decide_eq_true hy], h.read hf (by rw [← Nat.add_assoc]; exact hr)⟩
    · unfold InfM.take
      rw [if_pos (by omega), bitsFrom_drop, ← nbits_list]
    · unfold nbits; exact Nat.mod_lt _ (Nat.two_pow_pos n)
  · rw [if_neg hy, decide_eq_false hy]
    refine .inr ⟨?_, rfl⟩
    unfold InfM.take
    rw [if_neg (by omega)]
/-- The next symbol. -/
theorem stread_spec (h : St w base b rb sl s off p out most) {lo hi tb : Nat} {ls : List Nat} (ht : Tab w lo hi tb ls) (hrb : rb < lo ∨ hi ≤ rb) :
    Calls Tryz.prog F_huff_Table_Read #[.pointer (some ⟨tb, 0, none⟩), .pointer (some ⟨rb, 0, none⟩)] w fun e w' =>
      Fr (· = rb) w w' ∧ ((∃ x p' : Nat, InfM.sym ls (bitsFrom s off) p = .ok (x, p') ∧ p < p' ∧ x < ls.length ∧ e = .returned (.tuple #[.int .i64 (x : Int), .int .i64 0]) ∧ St w' base b rb sl s off p' out most) ∨
        ∃ err : Nat, InfM.sym ls (bitsFrom s off) p = .error err ∧ err ≠ 0 ∧ e = .returned (.tuple #[.int .i64 0, .int .i64 (err : Int)])) := by
  refine (hread_spec ht h.rd hrb).mono ?_
  rintro e w' ⟨x, err, n, rfl, hres, hr, hf⟩
  refine ⟨hf, ?_⟩
  rw [← bitsFrom_drop] at hres
  rcases InfM.sym_res ht.fits ht.gap hres with ⟨rfl, hs, h1, _, hx⟩ | ⟨he, rfl, hs⟩
  · exact .inl ⟨x, p + n, hs, by omega, hx, rfl, h.read hf (by rw [← Nat.add_assoc]; exact hr)⟩
  · exact .inr ⟨err, hs, by omega, rfl⟩
end
end Go.Proofs.YtaaimcbicpgjoaaGreatDoor
namespace InfM
theorem copy_succ (back : Nat) : ∀ (k : Nat) (out : List UInt8), copy back (k + 1) out = copy back k out ++ [(copy back k out).getD ((copy back k out).length - back) 0]
  | 0, _ => rfl
  | k + 1, out => by rw [copy, copy_succ back k, ← copy]
theorem copy_length (back : Nat) : ∀ (k : Nat) (out : List UInt8), (copy back k out).length = out.length + k
  | 0, _ => rfl
  | k + 1, out => by rw [copy, copy_length back k, List.length_append]; simp; omega
theorem lenBase_le : ∀ i, i ≤ 28 → (lenBase i).1 ≤ 258 ∧ (lenBase i).2 ≤ 5 := by decide +kernel
theorem distBase_le : ∀ i, i ≤ 29 → 1 ≤ (distBase i).1 ∧ (distBase i).1 ≤ 24577 ∧ (distBase i).2 ≤ 13 := by decide +kernel
end InfM
namespace Go.Proofs.YtaaimcbicpgjoaaGreatDoor
open Go Vc BitsM HuffM Go.Proofs
theorem ne_err {z : Int} {e : Nat} (h : (z != 0) = true) (hz : z = (e : Int)) : e ≠ 0 := fun h0 => by subst h0; subst hz; simp at h

theorem repeat_spec {w : World} {base b rb off p most : Nat} {sl : Sl} {s : ByteArray} {out : List UInt8} (h : St w base b rb sl s off p out most)
    {lo hi db x : Nat} {dist : List Nat} (ht : Tab w lo hi db dist) (hrb : rb < lo ∨ hi ≤ rb) (hx : 257 ≤ x) (hx2 : x < 1000) :
    Calls Tryz.prog F_inflate_state_repeat #[.pointer (some ⟨b, 0, none⟩), .int .i64 (x : Int), .pointer (some ⟨db, 0, none⟩)] w fun e w' =>
      ∃ err : Int, e = .returned (.int .i64 err) ∧ Rs w w' base b rb sl s off most (InfM.rep dist most (bitsFrom s off) x p out) err := by
  refine vc_inflate_state_repeat_ok (R := fun v w' => ∃ err : Int, v = .int .i64 err ∧ Rs w w' base b rb sl s off most (InfM.rep dist most (bitsFrom s off) x p out) err) ?_ (fun v w' ⟨e, h⟩ => ⟨e, by rw [h.1], h.2⟩)
  generalize hB : bitsFrom s off = B
  have rsub : ∀ {w1 w2 : World}, Fr (· = rb) w1 w2 → Fr (SX b rb sl) w1 w2 := fun hf => hf.mono fun k _ hk => .inr (.inl hk)
  refine ⟨fun hgt => ?_, fun hle => ?_⟩
  · have hgt := of_decide_eq_true hgt
    rw [InfM.rep, if_pos (by omega)]
    exact ⟨3, rfl, .refl _ _, rfl, by decide⟩
  have hle := of_decide_eq_false hle
  have hx285 : x ≤ 285 := by omega
  have e1 : IntKind.i64.wrap ((x : Int) - 257) = ((x - 257 : Nat) : Int) := by rw [wrap_i64 (by omega) (by omega)]; omega
  rw [e1, InfM.rep, if_neg (by omega)]
  obtain ⟨hl1, hl2⟩ := InfM.lenBase_le (x - 257) (by omega)
  refine (lbase_spec (x - 257) (by omega) w).mono ?_
  rintro e w2 ⟨rfl, hw2⟩
  replace hw2 := hw2.symm
  subst hw2
  generalize InfM.lenBase (x - 257) = L at hl1 hl2 ⊢
  refine ⟨_, _, rfl, _, h.c0, ?_⟩
  refine (stbits_spec h (n := L.2) (by omega)).mono ?_
  rw [hB]
  rintro e w7 ⟨hf7, ⟨more, p7, htk, hmore, hp7, rfl, h7⟩ | ⟨htk, rfl⟩⟩
  rotate_left
  · rw [htk]
    exact ⟨_, _, rfl, fun _ => ⟨6, rfl, rsub hf7, rfl, by decide⟩, fun hh => by cases hh⟩
  simp only [htk]
  have hm5 : 2 ^ L.2 ≤ 2 ^ 5 := Nat.pow_le_pow_right (by decide) hl2
  refine ⟨_, _, rfl, fun hh => (by cases hh), fun _ => ⟨_, h7.c0, ?_⟩⟩
  have ht7 := ht.keep hf7 (fun k h1 h2 hk => by omega)
  refine (stread_spec h7 ht7 hrb).mono ?_
  rw [hB]
  rintro e w12 ⟨hf12, ⟨d, p12, hsy, hp12, hd, rfl, h12⟩ | ⟨err, hsy, hne, rfl⟩⟩
  rotate_left
  · rw [hsy]
    refine ⟨_, _, rfl, fun _ => ⟨err, rfl, rsub (hf7.trans' hf12), rfl, hne⟩, fun hh => ?_⟩
    exact absurd hh (by simpa using hne)
  simp only [hsy]
  refine ⟨_, _, rfl, fun hh => (by simp at hh), fun _ => ⟨fun hgt => ?_, fun hle => ?_⟩⟩
  · have hgt := of_decide_eq_true hgt
    rw [if_pos (by omega)]
    exact ⟨3, rfl, rsub (hf7.trans' hf12), rfl, by decide⟩
  have hle := of_decide_eq_false hle
  rw [if_neg (by omega)]
  obtain ⟨hd1, hd2, hd3⟩ := InfM.distBase_le d (by omega)
  refine (dbase_spec d (by omega) w12).mono ?_
  rintro e w16 ⟨rfl, hw16⟩
  replace hw16 := hw16.symm
  subst hw16
  generalize InfM.distBase d = D at hd1 hd2 hd3 ⊢
  refine ⟨_, _, rfl, _, h12.c0, ?_⟩
  refine (stbits_spec h12 (n := D.2) (by omega)).mono ?_
  rw [hB]
  rintro e w21 ⟨hf21, ⟨far, p21, htk2, hfar, hp21, rfl, h21⟩ | ⟨htk2, rfl⟩⟩
  rotate_left
  · rw [htk2]
    exact ⟨_, _, rfl, fun _ => ⟨6, rfl, rsub ((hf7.trans' hf12).trans' hf21), rfl, by decide⟩, fun hh => by cases hh⟩
  simp only [htk2]
  have hm13 : 2 ^ D.2 ≤ 2 ^ 13 := Nat.pow_le_pow_right (by decide) hd3
  have hfr21 := (hf7.trans' hf12).trans' hf21
  have eback : IntKind.i64.wrap ((D.1 : Int) + IntKind.i64.wrap (far : Int)) = ((D.1 + far : Nat) : Int) := by
    rw [wrap_i64 (x := (far : Int)) (by omega) (by omega), wrap_i64 (by omega) (by omega)]; omega
  have en : IntKind.i64.wrap ((L.1 : Int) + IntKind.i64.wrap (more : Int)) = ((L.1 + more : Nat) : Int) := by
    rw [wrap_i64 (x := (more : Int)) (by omega) (by omega), wrap_i64 (by omega) (by omega)]; omega
  refine ⟨_, _, rfl, fun hh => (by cases hh), fun _ => ?_⟩
  rw [eback, en]
  have hback1 : 1 ≤ D.1 + far := by omega
  have hback2 : D.1 + far ≤ 40000 := by omega
  have hn2 : L.1 + more ≤ 300 := by omega
  generalize D.1 + far = back at hback1 hback2 ⊢
  generalize L.1 + more = n at hn2 ⊢
  refine ⟨_, h21.c1, fun hgt => ?_, fun hle => ?_⟩
  · have hgt := of_decide_eq_true hgt
    rw [h21.len] at hgt
    rw [if_pos (by omega)]
    exact ⟨3, rfl, rsub hfr21, rfl, by decide⟩
  have hle := of_decide_eq_false hle
  rw [h21.len] at hle
  rw [if_neg (by omega)]
  have hout := h21.fit
  have hmost := h21.small
  refine ⟨fun i w28 => ∃ k : Nat, i = (k : Int) ∧ k ≤ n ∧ ∃ sl', St w28 base b rb sl' s off p21 (InfM.copy back k out) most ∧ Since w sl sl' ∧ Fr (SX b rb sl) w w28, fun i w28 => n - i.toNat, ⟨0, rfl, Nat.zero_le _, sl, h21, .refl _ _, rsub hfr21⟩, ?_⟩
  rintro i w28 ⟨k, rfl, hk, sl', h28, hs28, hf28⟩
  have e3 : IntKind.i64.wrap ((k : Int) + 1) = ((k + 1 : Nat) : Int) := by rw [wrap_i64 (by omega) (by omega)]; omega
  rw [e3]
  have hcl := InfM.copy_length back k out
  have hcs := InfM.copy_succ back k out
  refine ⟨fun hlt w29 d29 => ?_, fun hge => ?_⟩
  · have hlt := of_decide_eq_true hlt
    have h29 := h28.drew d29
    have hlen := h29.len
    have eidx : IntKind.i64.wrap ((sl'.len : Int) - (back : Int)) = ((out.length + k - back : Nat) : Int) := by
      rw [hlen, hcl, wrap_i64 (by omega) (by omega)]; omega
    refine ⟨_, h29.c1, _, h29.c1, ?_⟩
    rw [eidx]
    refine ⟨⟨by omega, by rw [hlen, hcl]; omega⟩, ?_⟩
    rw [hcl] at hcs
    generalize hcc : InfM.copy back k out = cur at hcl hcs h28 h29 hlen
    have hlt2 : out.length + k - back < cur.length := by omega
    obtain ⟨a, ha, hc⟩ := h29.own.reads _ _ (show (byteV cur)[out.length + k - back]? = some (.int .u8 ((cur[out.length + k - back]'hlt2).toNat : Int)) by simp [byteV, hlt2])
    refine ⟨a, ha, _, by rw [Int.toNat_natCast, Nat.mul_one]; exact hc, ?_⟩
    refine (put_spec h29 (cur[out.length + k - back]'hlt2).toNat_lt).mono ?_
    rintro e w35 ⟨err, rfl, hf35, hr35⟩
    have hfw : Fr (SX b rb sl) w w35 := (hf28.trans' (.drew _ d29)).trans hf35 fun j hj hsx => by
      rcases hsx with h | h | ⟨y, hy, e⟩
      · exact .inl h
      · exact .inr (.inl h)
      · rcases hs28 y hy with ⟨z, hz, hb⟩ | hn
        · exact .inr (.inr ⟨z, hz, by omega⟩)
        · omega
    refine ⟨_, rfl, fun hne => ?_, fun heq => ?_⟩
    · by_cases hfull : cur.length = most
      · rw [if_pos hfull] at hr35
        obtain ⟨rfl, _⟩ := hr35
        rw [if_pos (by omega)]
        exact ⟨2, rfl, hfw, rfl, by decide⟩
      · rw [if_neg hfull] at hr35
        obtain ⟨rfl, _⟩ := hr35
        simp at hne
    · by_cases hfull : cur.length = most
      · rw [if_pos hfull] at hr35
        obtain ⟨rfl, _⟩ := hr35
        simp at heq
      · rw [if_neg hfull] at hr35
        obtain ⟨_, sl2, h35, hs35⟩ := hr35
        have hg : cur.getD (out.length + k - back) 0 = cur[out.length + k - back]'hlt2 := by simp [List.getD, hlt2]
        rw [UInt8.ofNat_toNat, ← hg, ← hcs] at h35
        exact ⟨⟨k + 1, rfl, by omega, sl2, h35, hs28.trans hs35 (hf28.trans' (.drew _ d29)).size, hfw⟩, by dsimp only; omega⟩
  · have hge := of_decide_eq_false hge
    have hkn : k = n := by omega
    subst hkn
    have := h28.fit
    rw [if_neg (by omega)]
    exact ⟨0, rfl, hf28, rfl, sl', h28, hs28⟩
end Go.Proofs.YtaaimcbicpgjoaaGreatDoor
namespace Go.Proofs.YtaaimcbicpgjoaaGreatDoor
open Go Vc BitsM HuffM Go.Proofs

theorem sbits_take (l : List UInt8) (k : Nat) : sbits (l.take k) = (sbits l).take (8 * k) := by
  by_cases h : k ≤ l.length
  · have h2 := sbits_append (l.take k) (l.drop k)
    rw [List.take_append_drop] at h2
    rw [h2, List.take_append_of_le_length (by rw [sbits_length, List.length_take]; omega), List.take_of_length_le (l := sbits (l.take k)) (by rw [sbits_length, List.length_take]; omega)]
  · rw [List.take_of_length_le (by omega), List.take_of_length_le (by rw [sbits_length]; omega)]
theorem extract_list (s : ByteArray) (i j : Nat) : (s.extract i j).data.toList = (s.data.toList.drop i).take (j - i) := by
  rw [ByteArray.data_extract, Array.toList_extract, List.extract_eq_take_drop]
theorem little_bits (s : ByteArray) (i j : Nat) : V (s.extract i j) (s.extract i j).size = num (((sbits s.data.toList).drop (8 * i)).take (8 * (j - i))) := by
  rw [← num_sbits, extract_list, sbits_take, sbits_drop]
theorem bytesAt_of (B : List Bool) (n p : Nat) : InfM.bytesAt B n p = bytesOf (B.drop p) n := by
  unfold InfM.bytesAt bytesOf
  refine List.map_congr_left fun i _ => ?_
  rw [← List.drop_drop, ← byteOf_nat, UInt8.ofNat_toNat]
theorem bytesAt_sbits (s : ByteArray) (q n : Nat) : InfM.bytesAt (sbits s.data.toList) n (8 * q) = (s.data.toList.drop q).take n ∨ s.size < q + n := by
  by_cases h : q + n ≤ s.size
  · left
    have := bytesOf_sbits [] 0 rfl (s.data.toList.drop q) n (by rw [List.length_drop]; simp; omega)
    rw [bytesAt_of, ← sbits_drop]
    simpa [bytesOf] using this
  · right; omega
theorem xor_ones (n : Nat) (h : n < 65536) : n ^^^ 65535 = 65535 - n := by
  have h2 := congrArg BitVec.toNat (BitVec.xor_allOnes (x := BitVec.ofNat 16 n))
  rw [BitVec.toNat_xor, BitVec.toNat_not, BitVec.toNat_allOnes, BitVec.toNat_ofNat, Nat.mod_eq_of_lt h] at h2
  simpa using h2

theorem num16 (L : List Bool) : num (L.take 16) < 65536 := by
  have h1 := num_lt (L.take 16)
  have h2 : (L.take 16).length ≤ 16 := by rw [List.length_take]; omega
  have h3 := Nat.pow_le_pow_right (n := 2) (by decide) h2
  omega
/-- A stored block. -/
theorem stored_spec {w : World} {base b rb off p most : Nat} {sl : Sl} {s : ByteArray} {out : List UInt8} (h : St w base b rb sl s off p out most) :
    Calls Tryz.prog F_inflate_state_stored #[.pointer (some ⟨b, 0, none⟩)] w fun e w' =>
      ∃ err : Int, e = .returned (.int .i64 err) ∧ Rs w w' base b rb sl s off most (InfM.stored most (bitsFrom s off) p out) err := by
  refine vc_inflate_state_stored_ok (R := fun v w' => ∃ err : Int, v = .int .i64 err ∧ Rs w w' base b rb sl s off most (InfM.stored most (bitsFrom s off) p out) err) ?_ (fun v w' ⟨e, h⟩ => ⟨e, by rw [h.1], h.2⟩)
  have rsub : ∀ {w1 w2 : World}, Fr (· = rb) w1 w2 → Fr (SX b rb sl) w1 w2 := fun hf => hf.mono fun k _ hk => .inr (.inl hk)
  obtain ⟨at_, hat⟩ := h.rd
  have hok := hat.ok
  have hsz := hat.sz
  clear hat
  have hle := h.le
  have hlen := bitsFrom_length s off
  obtain ⟨q, hq⟩ : ∃ q, (p + 7) / 8 = q := ⟨_, rfl⟩
  have hup : up8 (8 * off + p) = 8 * (off + q) := by unfold up8; omega
  have hup2 : up8 (8 * (off + q) + 32) = 8 * (off + q + 4) := by unfold up8; omega
  have hn16 : ∀ k, num (((bitsFrom s off).drop (8 * k)).take 16) = V (s.extract (off + k) (off + k + 2)) (s.extract (off + k) (off + k + 2)).size := fun k => by
    rw [little_bits, bitsFrom_drop, ← Nat.mul_add, show off + k + 2 - (off + k) = 2 by omega]
  have hst : InfM.stored most (bitsFrom s off) p out = (if 8 * q + 32 ≤ (bitsFrom s off).length then
      if V (s.extract (off + q) (off + q + 2)) (s.extract (off + q) (off + q + 2)).size + V (s.extract (off + (q + 2)) (off + (q + 2) + 2)) (s.extract (off + (q + 2)) (off + (q + 2) + 2)).size ≠ 65535 then .error 3
      else if 8 * q + 32 + 8 * V (s.extract (off + q) (off + q + 2)) (s.extract (off + q) (off + q + 2)).size ≤ (bitsFrom s off).length then
        if most < out.length + V (s.extract (off + q) (off + q + 2)) (s.extract (off + q) (off + q + 2)).size then .error 2
        else .ok (out ++ InfM.bytesAt (bitsFrom s off) (V (s.extract (off + q) (off + q + 2)) (s.extract (off + q) (off + q + 2)).size) (8 * q + 32), 8 * q + 32 + 8 * V (s.extract (off + q) (off + q + 2)) (s.extract (off + q) (off + q + 2)).size)
      else if most < out.length + ((bitsFrom s off).length - (8 * q + 32)) / 8 then .error 2 else .error 6
    else .error 6) := by
    unfold InfM.stored
    simp only [hq, Nat.mul_comm q 8, hn16, show 8 * q + 16 = 8 * (q + 2) by omega]
  rw [hst]
  clear hst
  have hn1 : V (s.extract (off + q) (off + q + 2)) (s.extract (off + q) (off + q + 2)).size < 65536 := by
    rw [← hn16]; exact num16 _
  have hn2 : V (s.extract (off + (q + 2)) (off + (q + 2) + 2)) (s.extract (off + (q + 2)) (off + (q + 2) + 2)).size < 65536 := by
    rw [← hn16]; exact num16 _
  refine ⟨_, h.c0, ?_⟩
  refine (rbytes_spec h.rd 4 (by omega)).mono ?_
  rw [hup, Nat.mul_div_cancel_left _ (by decide : 0 < 8)]
  have hl1 : left s (8 * (off + q)) = 8 * s.size - 8 * (off + q) := rfl
  rintro e w3 (⟨hyes, rfl, hr, hf3⟩ | ⟨hno, rfl, hr, hf3⟩)
  rotate_left
  · rw [if_neg (by omega)]
    exact ⟨_, _, rfl, fun _ => ⟨6, rfl, rsub hf3, rfl, by decide⟩, fun hh => by cases hh⟩
  rw [if_pos (by omega)]
  have h3 : St w3 base b rb sl s off (8 * q + 32) out most := h.read hf3 (by rw [show 8 * off + (8 * q + 32) = 8 * (off + q) + 8 * (4 : Int).toNat by simp; omega]; exact hr)
  have hsz4 : (s.extract (off + q) (off + q + (4 : Int).toNat)).size = 4 := by simp; omega
  have hh1 : (s.extract (off + q) (off + q + (4 : Int).toNat)).extract 0 (Int.toNat 2) = s.extract (off + q) (off + q + 2) := by
    rw [ByteArray.extract_extract]; congr 1; simp
  have hh2 : (s.extract (off + q) (off + q + (4 : Int).toNat)).extract (Int.toNat 2) (s.extract (off + q) (off + q + (4 : Int).toNat)).size = s.extract (off + (q + 2)) (off + (q + 2) + 2) := by
    rw [hsz4, ByteArray.extract_extract]; congr 1; simp; omega
  refine ⟨_, _, rfl, fun hh => (by cases hh), fun _ => ⟨⟨by decide, by omega⟩, ?_⟩⟩
  rw [hh1, hh2]
  have hz1 : (s.extract (off + q) (off + q + 2)).size ≤ 8 := by simp; omega
  have hz2 : (s.extract (off + (q + 2)) (off + (q + 2) + 2)).size ≤ 8 := by simp; omega
  refine (little_spec _ hz1 w3).mono ?_
  rintro e w7 ⟨rfl, hw7⟩
  replace hw7 := hw7.symm
  subst hw7
  refine ⟨_, rfl, ⟨by decide, by omega⟩, ?_⟩
  refine (little_spec _ hz2 w3).mono ?_
  rintro e w10 ⟨rfl, hw10⟩
  replace hw10 := hw10.symm
  subst hw10
  refine ⟨_, rfl, ?_⟩
  generalize V (s.extract (off + q) (off + q + 2)) (s.extract (off + q) (off + q + 2)).size = n at hn1 ⊢
  generalize V (s.extract (off + (q + 2)) (off + (q + 2) + 2)) (s.extract (off + (q + 2)) (off + (q + 2) + 2)).size = m at hn2 ⊢
  have en : IntKind.i64.wrap (n : Int) = (n : Int) := wrap_i64 (by omega) (by omega)
  have em : IntKind.i64.wrap (m : Int) = (m : Int) := wrap_i64 (by omega) (by omega)
  have ex : IntKind.i64.wrap (((BitVec.ofInt 64 (n : Int) ^^^ BitVec.ofInt 64 65535).toNat : Nat) : Int) = ((65535 - n : Nat) : Int) := by
    have := xor_nat 64 n 65535 (by omega) (by decide)
    rw [show ((65535 : Nat) : Int) = 65535 from rfl] at this
    rw [this, xor_ones n hn1, wrap_i64 (by omega) (by omega)]
  rw [en, em, ex]
  refine ⟨fun hne => ?_, fun heq => ?_⟩
  · have : ((65535 - n : Nat) : Int) ≠ (m : Int) := by simpa using hne
    rw [if_pos (by omega)]
    exact ⟨3, rfl, rsub hf3, rfl, by decide⟩
  have heq : ((65535 - n : Nat) : Int) = (m : Int) := by simpa using heq
  rw [if_neg (by omega)]
  refine ⟨_, h3.c0, ?_⟩
  refine (rbytes_spec h3.rd (n : Int) (by omega)).mono ?_
  rw [show 8 * off + (8 * q + 32) = 8 * (off + q) + 32 by omega, hup2, Nat.mul_div_cancel_left _ (by decide : 0 < 8), Int.toNat_natCast]
  have hl2 : left s (8 * (off + q + 4)) = 8 * s.size - 8 * (off + q + 4) := rfl
  have fin_ : ∀ (ok : Bool) (k : Nat) (w14 w32 : World) (t : ByteArray) (err : Nat) (r : InfM.E (List UInt8)), Fr (· = rb) w w32 → off + q + 4 + k ≤ s.size → t = s.extract (off + q + 4) (off + q + 4 + k) → St w32 base b rb sl s off (8 * q + 32 + 8 * k) out most →
      (most < out.length + k → r = .error 2) → (¬ most < out.length + k → ok = true → r = .ok (out ++ InfM.bytesAt (bitsFrom s off) k (8 * q + 32), 8 * q + 32 + 8 * k)) → (¬ most < out.length + k → ok = false → r = .error 6) →
      ∃ n33, w32.cell? ⟨b, 2, none⟩ = some (.int .i64 n33) ∧ ∃ l34 : Sl, w32.cell? ⟨b, 1, none⟩ = some (.slice l34.a l34.len l34.cap) ∧ ∀ w35, Drew w32 w35 →
        ((decide ((t.size : Int) > IntKind.i64.wrap (n33 - (l34.len : Int))) = true → ∃ err : Int, Value.int .i64 2 = .int .i64 err ∧ Rs w w35 base b rb sl s off most r err) ∧
         (decide ((t.size : Int) > IntKind.i64.wrap (n33 - (l34.len : Int))) = false → ∃ l36 : Sl, w35.cell? ⟨b, 1, none⟩ = some (.slice l36.a l36.len l36.cap) ∧ ∃ w37, ∃ l38 : Sl,
            (Builtin.append_ #[T_S_uint8, T_string] T_S_uint8 #[.slice l36.a l36.len l36.cap, .string t]).run Tryz.prog w35 = .ok (.slice l38.a l38.len l38.cap) w37 ∧ (Wr w37 ⟨b, 1, none⟩ ∧
              ∀ w39, w39 = w37.setCell ⟨b, 1, none⟩ (.slice l38.a l38.len l38.cap) →
                (((!ok) = true → ∃ err : Int, Value.int .i64 6 = .int .i64 err ∧ Rs w w39 base b rb sl s off most r err) ∧
                 ((!ok) = false → ∃ err : Int, Value.int .i64 0 = .int .i64 err ∧ Rs w w39 base b rb sl s off most r err))))) := by
    intro ok k w14 w32 t err r hf32 hk ht h32 hr2 hr0 hr6
    have htsz : t.size = k := by rw [ht]; simp; omega
    have hfit := h32.fit
    have hsm := h32.small
    refine ⟨_, h32.c2, _, h32.c1, fun w35 d35 => ?_⟩
    have h35 := h32.drew d35
    have hf35 : Fr (· = rb) w w35 := hf32.trans' (.drew _ d35)
    rw [h32.len, wrap_i64 (by omega) (by omega), htsz]
    refine ⟨fun hgt => ?_, fun hle => ?_⟩
    · have hgt := of_decide_eq_true hgt
      rw [hr2 (by omega)]
      exact ⟨2, rfl, rsub hf35, rfl, by decide⟩
    · have hle := of_decide_eq_false hle
      have hnl : ¬ most < out.length + k := by omega
      have hbl : (byteV out).length = out.length := List.length_map _
      obtain ⟨w37, l38, hr, ho, hf, hs⟩ := append_str elByte (by kernel_rfl : Tryz.prog.underlying T_string = some .string) h35.own t (by rw [hbl]; omega) h35.hbase
      have htl : t.data.toList = (s.data.toList.drop (off + q + 4)).take k := by rw [ht, extract_list, show off + q + 4 + k - (off + q + 4) = k by omega]
      have hba : InfM.bytesAt (bitsFrom s off) k (8 * q + 32) = t.data.toList := by
        rw [bytesAt_of, bitsFrom_drop, show 8 * off + (8 * q + 32) = 8 * (off + q + 4) by omega, ← bytesAt_of, htl]
        exact (bytesAt_sbits s (off + q + 4) k).resolve_right (by omega)
      rw [show byteV out ++ byteV t.data.toList = byteV (out ++ t.data.toList) by simp [byteV]] at ho
      have hlt : (out ++ t.data.toList).length ≤ most := by rw [List.length_append]; simp [htsz]; omega
      refine ⟨_, h35.c1, w37, l38, hr, (h35.more ho hf rfl hlt).1, fun w39 h39 => ?_⟩
      obtain ⟨_, hst, hfr⟩ := h35.more ho hf h39 hlt
      refine ⟨fun hok => ?_, fun hok => ?_⟩
      · rw [hr6 hnl (by simpa using hok)]
        exact ⟨6, rfl, (rsub hf35).trans' hfr, rfl, by decide⟩
      · rw [hr0 hnl (by simpa using hok), hba]
        refine ⟨0, rfl, (rsub hf35).trans' hfr, rfl, l38, hst, fun y hy => ?_⟩
        rcases hs y hy with hz | hn
        · exact .inl hz
        · exact .inr (Nat.le_trans hf35.size hn)
  rintro e w14 (⟨hyes, rfl, hr14, hf14⟩ | ⟨hno, rfl, hr14, hf14⟩)
  · rw [if_pos (by omega)]
    have h14 : St w14 base b rb sl s off (8 * q + 32 + 8 * n) out most := h3.read hf14 (by rw [show 8 * off + (8 * q + 32 + 8 * n) = 8 * (off + q + 4) + 8 * n by omega]; exact hr14)
    refine ⟨_, _, rfl, fun t w32 => t = s.extract (off + q + 4) (off + q + 4 + n) ∧ w32 = w14, ⟨⟨fun hh => (by cases hh), fun _ => ⟨rfl, rfl⟩⟩, ?_⟩⟩
    rintro t w32 ⟨ht, rfl⟩
    exact fin_ true n w32 w32 t 0 _ (hf3.trans' hf14) (by omega) ht h14 (fun h => if_pos h) (fun h _ => if_neg h) (fun _ h => by cases h)
  · rw [if_neg (by omega)]
    have h14 : St w14 base b rb sl s off (8 * q + 32) out most := h3.read hf14 (by rw [show 8 * off + (8 * q + 32) = 8 * (off + q + 4) by omega]; exact hr14)
    obtain ⟨k, hk⟩ : ∃ k, ((bitsFrom s off).length - (8 * q + 32)) / 8 = k := ⟨_, rfl⟩
    refine ⟨_, _, rfl, fun t w32 => t = s.extract (off + q + 4) (off + q + 4 + k) ∧ St w32 base b rb sl s off (8 * q + 32 + 8 * k) out most ∧ Fr (· = rb) w w32, ⟨⟨fun _ w18 d18 => ?_, fun hh => (by cases hh)⟩, ?_⟩⟩
    · have h18 := h14.drew d18
      refine ⟨fun w' => w'.heap[b]? = w18.heap[b]?, rfl, _, fun w' hw' => (by rw [cell_blk (hw'.trans h18.blk)]; rfl), _, fun w' hw' => (by rw [cell_blk (hw'.trans h18.blk)]; rfl), ?_⟩
      refine (left_spec h18.rd).mono ?_
      rintro e w25 ⟨rfl, d25⟩
      have h25 := h18.drew d25
      have hl3 : left s (8 * off + (8 * q + 32)) = 8 * s.size - (8 * off + (8 * q + 32)) := rfl
      have e8 : IntKind.i64.wrap (Int.tdiv ((left s (8 * off + (8 * q + 32)) : Nat) : Int) 8) = (k : Int) := by
        rw [Int.tdiv_eq_ediv_of_nonneg (by omega), wrap_i64 (by omega) (by omega)]; omega
      refine ⟨_, rfl, (by show w25.heap[b]? = w18.heap[b]?; rw [d25.heap]), by decide, ?_⟩
      rw [e8]
      refine (rbytes_spec h25.rd (k : Int) (by omega)).mono ?_
      rw [show 8 * off + (8 * q + 32) = 8 * (off + q) + 32 by omega, hup2, Nat.mul_div_cancel_left _ (by decide : 0 < 8), Int.toNat_natCast]
      rintro e w28 (⟨hyes, rfl, hr28, hf28⟩ | ⟨hno', rfl, hr28, hf28⟩)
      · have h28 : St w28 base b rb sl s off (8 * q + 32 + 8 * k) out most := h25.read hf28 (by rw [show 8 * off + (8 * q + 32 + 8 * k) = 8 * (off + q + 4) + 8 * k by omega]; exact hr28)
        refine ⟨_, _, rfl, ?_, rfl, h28, (((hf3.trans' hf14).trans' (.drew _ d18)).trans' (.drew _ d25)).trans' hf28⟩
        exact (hf28.blk b (lt_blk h25.blk) (fun e => h.ne e.symm)).trans (by rw [d25.heap])
      · omega
    · rintro t w32 ⟨ht, h32, hf32⟩
      rw [hk]
      exact fin_ false k w32 w32 t 0 _ hf32 (by omega) ht h32 (fun h => if_pos h) (fun _ h => by cases h) (fun h _ => if_neg h)
end Go.Proofs.YtaaimcbicpgjoaaGreatDoor
namespace Go.Proofs.YtaaimcbicpgjoaaGreatDoor
open Go Vc BitsM HuffM Go.Proofs

theorem make_ints {w : World} {base n : Nat} (hn : n ≤ 1000) (hbase : base ≤ w.heap.size) :
    ∃ w', (Instr.makeSlice T_S_int (.int .i64 (n : Int)) (.int .i64 (n : Int))).run Tryz.prog w = .ok (.slice (some ⟨w.heap.size, 0, none⟩) n n) w' ∧ Vc.Own w' base T_int ⟨some ⟨w.heap.size, 0, none⟩, n, n⟩ (nv (List.replicate n 0)) ∧ Fr (fun _ => False) w w' := by
  obtain ⟨i, hi, hi2⟩ := Option.map_eq_some_iff.1 elInt.info
  simp only [Prod.mk.injEq] at hi2
  obtain ⟨hz, hs1, hby⟩ := hi2
  obtain ⟨w', hr, ho, hg⟩ := run_makeSlice_full (P := Tryz.prog) w base T_S_int T_int i (.int .i64 0) 1 elInt.sl hi hz hs1 .i64 .i64 n (by omega) (by rw [hby]; omega) (by unfold maxLen; omega) hbase
  refine ⟨w', hr, ?_, (Fr.grown hg).mono fun k _ hk => by cases hk⟩
  have := (Vc.Own.ofRow ho).1
  rwa [show (madeCells (Value.int .i64 0).cells (n * 1)).toList = nv (List.replicate n 0) from ?_] at this
  unfold madeCells
  simp [nv, Value.cells, Nat.mod_one]
  exact List.eq_replicate_iff.2 ⟨by simp, fun b hb => by obtain ⟨x, _, rfl⟩ := List.mem_map.1 hb; rfl⟩
theorem St.keep2 {w w2 : World} {base b rb off p most : Nat} {sl : Sl} {s : ByteArray} {out : List UInt8} (h : St w base b rb sl s off p out most) {X : Nat → Prop} (hf : Fr X w w2) (h1 : ¬ X b) (h2 : ¬ X rb) (h3 : ∀ y, sl.a = some y → ¬ X y.block) : St w2 base b rb sl s off p out most :=
  ⟨hf.keep h.blk h1, h.own.keep hf h3, h.rd.keep hf h2, h.hb, h.hrb, h.ne, Nat.le_trans h.hbase hf.size, h.fit, h.small⟩
theorem St.lts {w : World} {base b rb off p most : Nat} {sl : Sl} {s : ByteArray} {out : List UInt8} (h : St w base b rb sl s off p out most) : b < w.heap.size ∧ rb < w.heap.size ∧ ∀ y, sl.a = some y → y.block < w.heap.size :=
  ⟨lt_blk h.blk, h.rd.lt, fun y hy => (h.own.blk hy).2⟩
theorem setRow_frI (X : Nat → Prop) (w : World) (g : Nat) (cs : Array Value) (h : X g) : Fr X w (w.setRow g cs) :=
  ⟨rfl, rfl, rfl, by simp [World.setRow], fun k _ hx => by
    simp only [World.setRow, Array.getElem?_modify]
    rw [if_neg (fun e => hx (by rw [← e]; exact h))]⟩
theorem one_nv (l : List Nat) : ∀ u ∈ nv l, u.oneCell' = true := fun u h => by
  obtain ⟨b, _, rfl⟩ := List.mem_map.1 h; rfl
theorem index_aggI {P : Program} {w : World} (t e : TypeId) (n : Nat) (cs : List Value) (k : IntKind) (i : Nat) (h : P.underlying t = some (.array n e)) (hs : (P.info? e).map (·.size) = some 1) (hl : cs.length = n) (hin : i < n) (ho : Vc.one P e = true) :
    (Instr.index t (.agg cs.toArray) (.int k (i : Int))).run P w = .ok (cs.getD i undef) w := by
  obtain ⟨ie, hie, hsz⟩ := Option.map_eq_some_iff.1 hs
  have hn : 0 ≤ (i : Int) ∧ (i : Int) < (n : Int) := by omega
  have hsize : ∀ w, (Go.sizeOf e).run P w = .ok 1 w := fun w => by simp [Go.sizeOf, typeInfo, hie, hsz]
  have hi : i < cs.length := by omega
  simp [Instr.index, run_underlying h, asIntOf, hin, go_sem, hsize, run_isAgg ho, Result.andThen, hi]
theorem subA_block {a : Option Addr} {c l sz : Nat} {x : Addr} (h : subA a c l sz = some x) : ∃ y, a = some y ∧ y.block = x.block := by
  unfold subA at h
  split at h
  · exact ⟨x, h, rfl⟩
  · obtain ⟨y, hy, rfl⟩ := Option.map_eq_some_iff.1 h
    exact ⟨y, hy, (add_block _ _).symm⟩
/-- The places, in their order. -/
theorem order_spec (w : World) : Calls Tryz.prog F_inflate_order #[] w fun e w' => e = .returned (.agg (nv InfM.places).toArray) ∧ Fr (fun _ => False) w w' := by
  refine vc_inflate_order_ok (R := fun v w' => v = .agg (nv InfM.places).toArray ∧ Fr (fun _ => False) w w') ?_ (fun v w' h => ⟨by rw [h.1], h.2⟩)
  intro w1 hw1
  have f1 : Fr (fun _ => False) w w1 := hw1 ▸ Fr.alloc _ _ _
  have hg : w1.heap[w.heap.size]? = some (.cells (nv (List.replicate 19 0)).toArray T_19_int (0, 0)) := by rw [hw1]; exact alloc_new _ _
  have hr := run_storeVar_row (P := Tryz.prog) w1 w.heap.size T_19_int T_19_int _ (nv InfM.places).toArray hg (by kernel_rfl) (by rfl) (by rw [Array.all_eq_true_iff_forall_mem]; intro v hv; exact one_nv _ v (by simpa using hv))
  refine ⟨w1.setRow w.heap.size (nv InfM.places).toArray, Eq.mp (by kernel_rfl) hr, ?_⟩
  have hs := setRow_heap w1 w.heap.size _ (nv InfM.places).toArray T_19_int (0, 0) hg
  have hload := load_agg (P := Tryz.prog) (t := T_19_int) (w := w1.setRow w.heap.size (nv InfM.places).toArray) (a := ⟨w.heap.size, 0, none⟩) (vs := nv InfM.places) (agg_of (by kernel_rfl)) (by kernel_rfl) (fun j v hv => by
    rw [add_lit, cell_blk hs]; simpa using hv)
  exact ⟨_, hload, rfl, f1.trans (setRow_frI (· = w.heap.size) w1 w.heap.size _ rfl) (fun q hq h => by omega)⟩
end Go.Proofs.YtaaimcbicpgjoaaGreatDoor
namespace InfM
noncomputable def tabs2 (B : List Bool) (nl nd p : Nat) (first : List Nat) : E (List Nat × List Nat) :=
  if chkN first ≠ 0 then .error 3
  else match clens first (nl + nd) B (nl + nd + 1) p [] with
    | .error e => .error e
    | .ok (l, p) => if l.getD 256 0 = 0 ∨ chkN (l.take nl) ≠ 0 ∨ chkN (l.drop nl) ≠ 0 then .error 3 else .ok ((l.take nl, l.drop nl), p)
noncomputable def tabs1 (B : List Bool) (nl nd nc p : Nat) : E (List Nat × List Nat) :=
  if 286 < nl ∨ 30 < nd then .error 3
  else match firsts B (places.take nc) p (List.replicate 19 0) with
    | .error e => .error e
    | .ok (first, p) => tabs2 B nl nd p first
theorem tables_ok {B : List Bool} {p h p' : Nat} (ht : take B 14 p = .ok (h, p')) : tables B p = tabs1 B (h % 32 + 257) (h / 32 % 32 + 1) (h / 1024 + 4) p' := by
  unfold tables tabs1 tabs2
  rw [ht] <;> rfl
theorem tables_err {B : List Bool} {p e : Nat} (ht : take B 14 p = .error e) : tables B p = .error e := by
  unfold tables
  rw [ht]
theorem firsts_length {B : List Bool} : ∀ (r : List Nat) (p : Nat) (l : List Nat) (l' : List Nat) (p' : Nat), firsts B r p l = .ok (l', p') → l'.length = l.length
  | [], p, l, l', p', h => by simp only [firsts, Except.ok.injEq, Prod.mk.injEq] at h; rw [h.1]
  | i :: r, p, l, l', p', h => by
    rw [firsts] at h
    split at h
    · cases h
    · rw [firsts_length r _ _ _ _ h, List.length_set]
end InfM
namespace Go.Proofs.YtaaimcbicpgjoaaGreatDoor
open Go Vc BitsM HuffM Go.Proofs

/-- What the reading of the tables comes to. -/
def TRes (w w' : World) (base b rb : Nat) (sl : Sl) (s : ByteArray) (off most : Nat) (out : List UInt8) (r : InfM.E (List Nat × List Nat)) (v : Value) : Prop :=
  Fr (· = rb) w w' ∧ match r with
  | .error er => v = .tuple #[.pointer none, .pointer none, .int .i64 (er : Int)] ∧ er ≠ 0
  | .ok ((lit, dist), p') => ∃ lb db, v = .tuple #[.pointer (some ⟨lb, 0, none⟩), .pointer (some ⟨db, 0, none⟩), .int .i64 0] ∧ Tab w' w.heap.size w'.heap.size lb lit ∧ Tab w' w.heap.size w'.heap.size db dist ∧ St w' base b rb sl s off p' out most
theorem nv_snoc (l : List Nat) (x : Nat) : nv l ++ [.int .i64 (x : Int)] = nv (l ++ [x]) := by simp [nv]
theorem toNat_ofNat (l : List Nat) : (l.map Int.ofNat).map Int.toNat = l := by simp [List.map_map, Function.comp_def]

theorem hnew_any {a : Option Addr} {zs : List Int} {n c : Nat} {w : World} (hr : Reads w a (iv zs)) (hn : zs.length = n) (ha : ∀ x, a = some x → x.block < w.heap.size) :
    Calls Tryz.prog F_huff_New #[.slice a n c] w fun e w' => Fr (fun _ => False) w w' ∧ ∃ pt, e = .returned (.tuple #[.pointer pt, .int .i64 ((chk zs : Nat) : Int)]) ∧ (chk zs = 0 → ∃ b, pt = some ⟨b, 0, none⟩ ∧ Tab w' w.heap.size w'.heap.size b (zs.map Int.toNat)) := by
  refine (hnew_spec hr hn ha).mono ?_
  rintro e w' ⟨⟨hc, rfl⟩ | ⟨hc, b, rfl, ht⟩, hf⟩
  · exact ⟨hf, none, rfl, fun h => absurd h hc⟩
  · exact ⟨hf, _, by rw [hc]; rfl, fun _ => ⟨b, rfl, ht⟩⟩

theorem tables_spec {w : World} {base b rb off p most : Nat} {sl : Sl} {s : ByteArray} {out : List UInt8} (h : St w base b rb sl s off p out most) :
    Calls Tryz.prog F_inflate_state_tables #[.pointer (some ⟨b, 0, none⟩)] w fun e w' => ∃ v, e = .returned v ∧ TRes w w' base b rb sl s off most out (InfM.tables (bitsFrom s off) p) v := by
  refine vc_inflate_state_tables_ok (R := fun v w' => TRes w w' base b rb sl s off most out (InfM.tables (bitsFrom s off) p) v) ?_ (fun v w' h => ⟨v, rfl, h⟩)
  generalize hB : bitsFrom s off = B
  refine ⟨_, h.c0, ?_⟩
  refine (stbits_spec h (n := 14) (by omega)).mono ?_
  rw [hB]
  rintro e w3 ⟨hf3, ⟨hd, p3, htk, hhd, hp3, rfl, h3⟩ | ⟨htk, rfl⟩⟩
  rotate_left
  · rw [InfM.tables_err htk]
    exact ⟨_, _, rfl, fun _ => ⟨hf3, rfl, by decide⟩, fun hh => by cases hh⟩
  rw [InfM.tables_ok htk]
  refine ⟨_, _, rfl, fun hh => (by cases hh), fun _ => ⟨by decide, by decide, ?_⟩⟩
  have enl : IntKind.i64.wrap (IntKind.i64.wrap (IntKind.u32.wrap (((BitVec.ofInt 32 (hd : Int) &&& BitVec.ofInt 32 31).toNat : Nat) : Int)) + 257) = ((hd % 32 + 257 : Nat) : Int) := by
    have := and_nat 32 hd 31 (by omega) (by decide)
    rw [show ((31 : Nat) : Int) = 31 from rfl, show hd &&& 31 = hd % 32 from and_mask hd 5] at this
    rw [this, wrap_u32 (by omega) (by omega), wrap_i64 (x := ((hd % 32 : Nat) : Int)) (by omega) (by omega), wrap_i64 (by omega) (by omega)]; omega
  have e5 : Int.fdiv (hd : Int) (2 ^ min (Int.toNat 5) 32) = ((hd / 32 : Nat) : Int) := by
    rw [show (2 : Int) ^ min (Int.toNat 5) 32 = ((32 : Nat) : Int) from rfl, Int.fdiv_eq_ediv_of_nonneg _ (Int.natCast_nonneg _), ← Int.natCast_ediv]
  have e10 : Int.fdiv (hd : Int) (2 ^ min (Int.toNat 10) 32) = ((hd / 1024 : Nat) : Int) := by
    rw [show (2 : Int) ^ min (Int.toNat 10) 32 = ((1024 : Nat) : Int) from rfl, Int.fdiv_eq_ediv_of_nonneg _ (Int.natCast_nonneg _), ← Int.natCast_ediv]
  have end_ : IntKind.i64.wrap (IntKind.i64.wrap (IntKind.u32.wrap (((BitVec.ofInt 32 ((hd / 32 : Nat) : Int) &&& BitVec.ofInt 32 31).toNat : Nat) : Int)) + 1) = ((hd / 32 % 32 + 1 : Nat) : Int) := by
    have := and_nat 32 (hd / 32) 31 (by omega) (by decide)
    rw [show ((31 : Nat) : Int) = 31 from rfl, show hd / 32 &&& 31 = hd / 32 % 32 from and_mask (hd / 32) 5] at this
    rw [this, wrap_u32 (by omega) (by omega), wrap_i64 (x := ((hd / 32 % 32 : Nat) : Int)) (by omega) (by omega), wrap_i64 (by omega) (by omega)]; omega
  have enc : IntKind.i64.wrap (IntKind.i64.wrap ((hd / 1024 : Nat) : Int) + 4) = ((hd / 1024 + 4 : Nat) : Int) := by
    rw [wrap_i64 (x := ((hd / 1024 : Nat) : Int)) (by omega) (by omega), wrap_i64 (by omega) (by omega)]; omega
  rw [enl, e5, end_, e10, enc]
  have hnl1 : 257 ≤ hd % 32 + 257 := by omega
  have hnl2 : hd % 32 + 257 ≤ 288 := by omega
  have hnd1 : 1 ≤ hd / 32 % 32 + 1 := by omega
  have hnd2 : hd / 32 % 32 + 1 ≤ 32 := by omega
  have hnc : hd / 1024 + 4 ≤ 19 := by omega
  clear enl e5 e10 end_ enc
  generalize hd % 32 + 257 = nl at *
  generalize hd / 32 % 32 + 1 = nd at *
  generalize hd / 1024 + 4 = nc at *
  rw [InfM.tabs1]
  refine ⟨fun hgt => ?_, fun hle => ⟨fun hgt => ?_, fun hle2 => ?_⟩⟩
  · have hgt := of_decide_eq_true hgt
    rw [if_pos (by omega)]
    exact ⟨hf3, rfl, by decide⟩
  · have hgt := of_decide_eq_true hgt
    rw [if_pos (by omega)]
    exact ⟨hf3, rfl, by decide⟩
  have hle := of_decide_eq_false hle
  have hle2 := of_decide_eq_false hle2
  rw [if_neg (by omega)]
  obtain ⟨w6, hr6, ho6, hf6⟩ := make_ints (w := w3) (n := 19) (by omega) (Nat.le_refl _)
  have h6 := h3.keep hf6 (by simp)
  refine ⟨w6, ⟨_, _, _⟩, hr6, ?_⟩
  obtain ⟨lb3, lrb3, lsl3⟩ := h3.lts
  have hpl : (InfM.places.take nc).length = nc := by rw [List.length_take]; have : InfM.places.length = 19 := rfl; omega
  refine ⟨fun i w11 => ∃ (k p' : Nat) (l' : List Nat), i = (k : Int) ∧ k ≤ nc ∧ InfM.firsts B (InfM.places.take nc) p3 (List.replicate 19 0) = InfM.firsts B ((InfM.places.take nc).drop k) p' l' ∧ l'.length = 19 ∧
      St w11 base b rb sl s off p' out most ∧ Vc.Own w11 w3.heap.size T_int ⟨some ⟨w3.heap.size, 0, none⟩, 19, 19⟩ (nv l') ∧ Fr (fun k => k = rb ∨ w3.heap.size ≤ k) w3 w11, fun i w11 => nc - i.toNat,
    ⟨0, p3, _, rfl, Nat.zero_le _, rfl, by simp, h6, ho6, hf6.mono fun k _ hk => hk.elim⟩, ?_⟩
  rintro i w11 ⟨k, p', l', rfl, hk, hinv, hl', h11, ho11, hf11⟩
  have e3 : IntKind.i64.wrap ((k : Int) + 1) = ((k + 1 : Nat) : Int) := by rw [wrap_i64 (by omega) (by omega)]; omega
  rw [e3]
  refine ⟨fun hlt => ?_, fun hge => ?_⟩
  · have hlt := of_decide_eq_true hlt
    have hkn : k < (InfM.places.take nc).length := by omega
    rw [List.drop_eq_getElem_cons hkn] at hinv
    have hpk : (InfM.places.take nc)[k] = InfM.places.getD k 0 := by
      rw [List.getElem_take, List.getD_eq_getElem?_getD, List.getElem?_eq_getElem (by have : InfM.places.length = 19 := rfl; omega)]; rfl
    have hp19 : InfM.places.getD k 0 < 19 := by
      have : ∀ k, k < 19 → InfM.places.getD k 0 < 19 := by decide
      exact this k (by omega)
    rw [hpk] at hinv
    refine ⟨_, h11.c0, ?_⟩
    refine (stbits_spec h11 (n := 3) (by omega)).mono ?_
    rw [hB]
    rintro e w14 ⟨hf14, ⟨x, p14, htk', hx, hp14, rfl, h14⟩ | ⟨htk', rfl⟩⟩
    rotate_left
    · have : InfM.firsts B (InfM.places.take nc) p3 (List.replicate 19 0) = .error 6 := by rw [hinv, InfM.firsts, htk']
      rw [this]
      refine ⟨_, _, rfl, fun _ => ⟨(hf3.trans hf11 fun k hk h => ?_).trans' hf14, rfl, by decide⟩, fun hh => by cases hh⟩
      rcases h with h | h
      · exact h
      · have := hf3.size; omega
    rw [InfM.firsts, htk'] at hinv
    simp only at hinv
    refine ⟨_, _, rfl, fun hh => (by cases hh), fun _ => ?_⟩
    refine (order_spec w14).mono ?_
    rintro e w18 ⟨rfl, hf18⟩
    have h18 := h14.keep hf18 (by simp)
    have l11 := h11.lts
    have ho14 := ho11.keep hf14 (fun y hy e => by cases hy; dsimp only at e; omega)
    have ho18 := ho14.keep hf18 (by simp)
    refine ⟨_, rfl, w18, ((InfM.places.getD k 0 : Nat) : Int), ?_, ?_⟩
    · have hidx := index_aggI (P := Tryz.prog) (w := w18) T_19_int T_int 19 (nv InfM.places) .i64 k (by kernel_rfl) (by kernel_rfl) (by rfl) (by omega) (by kernel_rfl)
      rw [show (nv InfM.places).getD k undef = .int .i64 ((InfM.places.getD k 0 : Nat) : Int) by
        have : ∀ k, k < 19 → (nv InfM.places).getD k undef = .int .i64 ((InfM.places.getD k 0 : Nat) : Int) := fun k hk => by
          have h19 : k < InfM.places.length := hk
          simp [nv, List.getD_eq_getElem?_getD, h19]
        exact this k (by omega)] at hidx
      exact hidx
    generalize InfM.places.getD k 0 = pk at hinv hp19 ⊢
    obtain ⟨a, ha, hc, hw, hset⟩ := ho18.set (i := pk) (by rw [List.length_map]; omega)
    have ew : IntKind.i64.wrap (x : Int) = (x : Int) := wrap_i64 (by omega) (by omega)
    refine ⟨⟨by omega, by dsimp only; omega⟩, a, ha, ?_⟩
    rw [Int.toNat_natCast, Nat.mul_one, ew]
    refine ⟨hw, ?_⟩
    rintro w23 rfl
    obtain ⟨ho23, hf23⟩ := hset (.int .i64 (x : Int))
    rw [show (nv l').set pk (.int .i64 (x : Int)) = nv (l'.set pk x) by simp [nv, List.map_set]] at ho23
    have h23 := h18.keep2 hf23 (fun ⟨y, hy, e⟩ => by cases hy; dsimp only at e; omega) (fun ⟨y, hy, e⟩ => by cases hy; dsimp only at e; omega) (fun z hz ⟨y, hy, e⟩ => by cases hy; have := lsl3 z hz; dsimp only at e; omega)
    refine ⟨⟨k + 1, p14, _, rfl, by omega, hinv, by rw [List.length_set]; exact hl', h23, ho23, ?_⟩, by dsimp only; omega⟩
    exact ((hf11.trans' (hf14.mono fun k _ hk => .inl hk)).trans' (hf18.mono fun k _ hk => hk.elim)).trans' (hf23.mono fun k _ ⟨y, hy, e⟩ => by cases hy; dsimp only at e; exact .inr (by omega))
  have hge := of_decide_eq_false hge
  have hkk : k = nc := by omega
  subst hkk
  rw [List.drop_of_length_le (by omega), InfM.firsts] at hinv
  rw [hinv]
  simp only
  rw [InfM.tabs2]
  have hfw11 : Fr (· = rb) w w11 := hf3.trans hf11 fun k hk h => by
    rcases h with h | h
    · exact h
    · have := hf3.size; omega
  rw [← iv_ofNat] at ho11
  refine (hnew_spec ho11.reads (n := 19) (by rw [List.length_map, hl']) (fun x hx => (ho11.blk hx).2)).mono ?_
  have hchk : InfM.chkN l' = chk (l'.map Int.ofNat) := rfl
  rintro e w25 ⟨⟨hc, rfl⟩ | ⟨hc, tb, rfl, ht⟩, hf25⟩
  · rw [hchk, if_pos hc]
    refine ⟨_, _, rfl, fun _ => ⟨hfw11.trans' (hf25.mono fun k _ hk => hk.elim), rfl, by decide⟩, fun hh => ?_⟩
    exact absurd hh (by simpa using hc)
  rw [hchk, if_neg (by omega)]
  rw [toNat_ofNat] at ht
  refine ⟨_, _, rfl, fun hh => (by simp at hh), fun _ => ?_⟩
  have h25 := h11.keep hf25 (by simp)
  have hfw25 : Fr (· = rb) w w25 := hfw11.trans' (hf25.mono fun k _ hk => hk.elim)
  obtain ⟨lb, lrb, lsl⟩ := h25.lts
  have hH11 : w.heap.size ≤ w11.heap.size := hfw11.size
  obtain ⟨lb11, lrb11, lsl11⟩ := h11.lts
  have etot : IntKind.i64.wrap ((nl : Int) + (nd : Int)) = ((nl + nd : Nat) : Int) := by rw [wrap_i64 (by omega) (by omega)]; omega
  rw [etot]
  obtain ⟨tot, htot⟩ : ∃ tot, nl + nd = tot := ⟨_, rfl⟩
  rw [htot]
  generalize hCL : InfM.clens l' tot B (tot + 1) p' [] = CL
  generalize hlo : w11.heap.size = lo at *
  generalize hhi : w25.heap.size = H at *
  have hloH : lo ≤ H := by rw [← hlo, ← hhi]; exact hf25.size
  have toW : ∀ {wx : World}, Fr (fun k => k = rb ∨ H ≤ k) w25 wx → Fr (· = rb) w wx := fun hf => hfw25.trans hf fun k hk h => by
    rcases h with h | h
    · exact h
    · omega
  refine ⟨fun l w31 => ∃ (q : Nat) (xs : List Nat) (f : Nat), CL = InfM.clens l' tot B f q xs ∧ tot + 1 ≤ f + xs.length ∧ xs.length ≤ tot ∧
      St w31 base b rb sl s off q out most ∧ Vc.Own w31 H T_int l (nv xs) ∧ Fr (fun k => k = rb ∨ H ≤ k) w25 w31, fun l w31 => tot - l.len,
    ⟨p', [], tot + 1, hCL.symm, by simp, Nat.zero_le _, h25, .nil _ _ _, .refl _ _⟩, ?_⟩
  rintro l30 w31 ⟨q, xs, f, hcl, hfx, hxl, h31, ho31, hf31⟩
  have hll : l30.len = xs.length := by rw [ho31.len, List.length_map]
  have hs31 := hf31.size
  have ht31 : Tab w31 lo H tb l' := ht.keep hf31 (fun k h1 h2 hk => by omega)
  refine ⟨fun hlt => ?_, fun hge => ?_⟩
  · have hlt := of_decide_eq_true hlt
    obtain ⟨f, rfl⟩ : ∃ g, f = g + 1 := ⟨f - 1, by omega⟩
    rw [InfM.clens, if_neg (by omega)] at hcl
    refine ⟨_, h31.c0, ?_⟩
    refine (stread_spec h31 ht31 (.inl lrb11)).mono ?_
    rw [hB]
    rintro e w34 ⟨hf34, ⟨x, q1, hsy, hq1, hx, rfl, h34⟩ | ⟨err, hsy, hne, rfl⟩⟩
    rotate_left
    · rw [hsy] at hcl
      rw [hcl]
      refine ⟨_, _, rfl, fun _ => ⟨(toW hf31).trans' hf34, rfl, hne⟩, fun hh => ?_⟩
      exact absurd hh (by simpa using hne)
    rw [hsy] at hcl
    simp only at hcl
    have ho34 := ho31.keep hf34 (fun y hy e => by have := (ho31.blk hy).1; omega)
    have hf34' : Fr (fun k => k = rb ∨ H ≤ k) w25 w34 := hf31.trans' (hf34.mono fun k _ hk => .inl hk)
    have hs34 := hf34'.size
    refine ⟨_, _, rfl, fun hh => (by simp at hh), fun _ => ⟨fun hlt16 => ?_, fun hge16 => ?_⟩⟩
    · have hlt16 := of_decide_eq_true hlt16
      rw [if_pos (by omega)] at hcl
      intro w37 h37
      have hnl' : (nv xs).length = xs.length := List.length_map _
      obtain ⟨w38, l39, hr, ho38, hf38, _⟩ := append_one' elInt ho34 (v := .int .i64 (x : Int)) rfl (by rw [hnl']; unfold maxLen; omega) (by rw [hnl']; omega) (by omega) h37
      rw [nv_snoc] at ho38
      have hl39 : l39.len = xs.length + 1 := by rw [ho38.len]; simp
      exact ⟨w38, l39, hr, ⟨q1, xs ++ [x], f, hcl, by simp; omega, by simp; omega, h34.keep2 hf38 (fun ⟨y, hy, e⟩ => by have := (ho34.blk hy).1; omega) (fun ⟨y, hy, e⟩ => by have := (ho34.blk hy).1; omega) (fun z hz ⟨y, hy, e⟩ => by have := (ho34.blk hy).1; have := lsl z hz; omega), ho38,
        hf34'.trans' (hf38.mono fun k _ ⟨y, hy, e⟩ => by have := (ho34.blk hy).1; exact .inr (by omega))⟩, by dsimp only; omega⟩
    have hge16 := of_decide_eq_false hge16
    rw [if_neg (by omega)] at hcl
    rw [hl'] at hx
    refine ⟨fun bits least what w46 => ¬ (x = 16 ∧ xs = []) ∧ bits = (((if x = 16 then 2 else if x = 17 then 3 else 7) : Nat) : Int) ∧ least = (((if x = 16 ∨ x = 17 then 3 else 11 : Nat)) : Int) ∧ what = (((if x = 16 then xs.getLastD 0 else 0) : Nat) : Int) ∧ w34 = w46, ⟨fun h16 => ?_, fun hn16 => ⟨fun h17 => ?_, fun hn17 => ?_⟩⟩, ?_⟩
    · have h16 : x = 16 := by have := eq_of_beq h16; omega
      subst h16
      refine ⟨fun h0 => ?_, fun hn0 => ?_⟩
      · have h0 : xs = [] := by
          have := eq_of_beq h0
          exact List.length_eq_zero_iff.1 (by omega)
        rw [if_pos ⟨rfl, h0⟩] at hcl
        rw [hcl]
        exact ⟨toW hf34', rfl, by decide⟩
      · have hne : xs ≠ [] := fun hh => by rw [hll, hh] at hn0; simp at hn0
        have hpos : 0 < xs.length := List.length_pos_iff.2 hne
        have e1 : IntKind.i64.wrap ((l30.len : Int) - 1) = ((xs.length - 1 : Nat) : Int) := by rw [hll, wrap_i64 (by omega) (by omega)]; omega
        rw [e1]
        obtain ⟨a, ha, hc⟩ := ho34.reads _ _ (show (nv xs)[xs.length - 1]? = some (.int .i64 ((xs.getLastD 0 : Nat) : Int)) by
          rw [nv, List.getElem?_map, List.getLastD_eq_getLast?, List.getLast?_eq_getElem?]
          rw [List.getElem?_eq_getElem (by omega)]; rfl)
        refine ⟨⟨by omega, by omega⟩, a, ha, _, by rw [Int.toNat_natCast, Nat.mul_one]; exact hc, fun hh => hne hh.2, rfl, rfl, rfl, rfl⟩
    · have h17 : x = 17 := by have := eq_of_beq h17; omega
      subst h17
      exact ⟨fun hh => by omega, rfl, rfl, rfl, rfl⟩
    · have h18 : x = 18 := by
        have h1 : x ≠ 16 := fun hh => by subst hh; simp at hn16
        have h2 : x ≠ 17 := fun hh => by subst hh; simp at hn17
        omega
      subst h18
      exact ⟨fun hh => by omega, rfl, rfl, rfl, rfl⟩
    rintro _ _ _ w46 ⟨hnn, rfl, rfl, rfl, rfl⟩
    rw [if_neg hnn] at hcl
    have hbits : (if x = 16 then 2 else if x = 17 then 3 else 7) ≤ 7 := by split <;> (try split) <;> omega
    have hleast : 3 ≤ (if x = 16 ∨ x = 17 then 3 else 11) ∧ (if x = 16 ∨ x = 17 then 3 else 11) ≤ 11 := by split <;> omega
    generalize (if x = 16 then 2 else if x = 17 then 3 else 7) = bits at hcl hbits ⊢
    generalize (if x = 16 ∨ x = 17 then 3 else 11) = least at hcl hleast ⊢
    generalize (if x = 16 then xs.getLastD 0 else 0) = what at hcl ⊢
    refine ⟨_, h34.c0, ?_⟩
    refine (stbits_spec h34 (n := bits) (by omega)).mono ?_
    rw [hB]
    rintro e w49 ⟨hf49, ⟨m, q2, htk2, hm, hq2, rfl, h49⟩ | ⟨htk2, rfl⟩⟩
    rotate_left
    · rw [htk2] at hcl
      rw [hcl]
      exact ⟨_, _, rfl, fun _ => ⟨(toW hf34').trans' hf49, rfl, by decide⟩, fun hh => by cases hh⟩
    rw [htk2] at hcl
    simp only at hcl
    have hm7 : m < 128 := Nat.lt_of_lt_of_le hm (Nat.pow_le_pow_right (n := 2) (by decide) hbits)
    refine ⟨_, _, rfl, fun hh => (by cases hh), fun _ => ?_⟩
    have ek1 : IntKind.i64.wrap (IntKind.i64.wrap ((l30.len : Int) + (least : Int)) + IntKind.i64.wrap (m : Int)) = ((xs.length + (least + m) : Nat) : Int) := by
      rw [hll, wrap_i64 (x := (m : Int)) (by omega) (by omega), wrap_i64 (x := ((xs.length : Nat) : Int) + _) (by omega) (by omega), wrap_i64 (by omega) (by omega)]; omega
    have ek2 : IntKind.i64.wrap ((least : Int) + IntKind.i64.wrap (m : Int)) = ((least + m : Nat) : Int) := by
      rw [wrap_i64 (x := (m : Int)) (by omega) (by omega), wrap_i64 (by omega) (by omega)]; omega
    rw [ek1, ek2]
    have hK1 : 3 ≤ least + m := by omega
    have hK2 : least + m ≤ 200 := by omega
    generalize least + m = K at hcl hK1 hK2 ⊢
    have ho49 := ho34.keep hf49 (fun y hy e => by have := (ho34.blk hy).1; omega)
    have hf49' : Fr (fun k => k = rb ∨ H ≤ k) w25 w49 := hf34'.trans' (hf49.mono fun k _ hk => .inl hk)
    have hs49 := hf49'.size
    refine ⟨fun hgt => ?_, fun hle => ?_⟩
    · have hgt := of_decide_eq_true hgt
      rw [if_pos (by omega)] at hcl
      rw [hcl]
      exact ⟨toW hf49', rfl, by decide⟩
    have hle := of_decide_eq_false hle
    rw [if_neg (by omega)] at hcl
    refine ⟨fun l i w56 => ∃ k : Nat, i = (k : Int) ∧ k ≤ K ∧ Vc.Own w56 H T_int l (nv (xs ++ List.replicate k what)) ∧ Fr (fun k => H ≤ k) w49 w56, fun l i w56 => K - i.toNat, ⟨0, rfl, Nat.zero_le _, by simpa using ho49, .refl _ _⟩, ?_⟩
    rintro l54 i w56 ⟨k, rfl, hk, ho56, hf56⟩
    have e3 : IntKind.i64.wrap ((k : Int) + 1) = ((k + 1 : Nat) : Int) := by rw [wrap_i64 (by omega) (by omega)]; omega
    rw [e3]
    have hs56 := hf56.size
    have hnl' : (nv (xs ++ List.replicate k what)).length = xs.length + k := by simp
    refine ⟨fun hlt w57 h57 => ?_, fun hge => ?_⟩
    · have hlt := of_decide_eq_true hlt
      obtain ⟨w58, l59, hr, ho58, hf58, _⟩ := append_one' elInt ho56 (v := .int .i64 (what : Int)) rfl (by rw [hnl']; unfold maxLen; omega) (by rw [hnl']; omega) (by omega) h57
      rw [nv_snoc, List.append_assoc, ← List.replicate_succ'] at ho58
      exact ⟨w58, l59, hr, ⟨k + 1, rfl, by omega, ho58, hf56.trans' (hf58.mono fun k _ ⟨y, hy, e⟩ => by have := (ho56.blk hy).1; omega)⟩, by dsimp only; omega⟩
    · have hge := of_decide_eq_false hge
      have hkK : k = K := by omega
      subst hkK
      have hl54 : l54.len = xs.length + k := by rw [ho56.len, hnl']
      exact ⟨⟨q2, _, f, hcl, by simp; omega, by simp; omega, h49.keep2 hf56 (by omega) (by omega) (fun z hz hh => by have := lsl z hz; omega), ho56, hf49'.trans' (hf56.mono fun k _ hk => .inr hk)⟩, by dsimp only; omega⟩
  have hge := of_decide_eq_false hge
  have hxt : xs.length = tot := by omega
  obtain ⟨f, rfl⟩ : ∃ g, f = g + 1 := ⟨f - 1, by omega⟩
  rw [InfM.clens, if_pos (by omega)] at hcl
  rw [hcl]
  simp only
  rw [Int.toNat_natCast]
  have hcap := ho31.cap
  have hr1 : Reads w31 (subA l30.a l30.cap 0 1) (iv ((xs.take nl).map Int.ofNat)) := by
    rw [iv_ofNat]
    have := ((ho31.reads).sub (cap := l30.cap) (by rw [List.length_map]; omega) 0).take nl
    simpa [nv, List.map_take] using this
  have hr2 : Reads w31 (subA l30.a l30.cap nl 1) (iv ((xs.drop nl).map Int.ofNat)) := by
    rw [iv_ofNat]
    have := (ho31.reads).sub (cap := l30.cap) (by rw [List.length_map]; omega) nl
    simpa [nv, List.map_drop] using this
  have hbl1 : ∀ {k : Nat} {x : Addr}, subA l30.a l30.cap k 1 = some x → x.block < w31.heap.size ∧ H ≤ x.block := fun hx => by
    obtain ⟨y, hy, e⟩ := subA_block hx
    have := ho31.blk hy; omega
  refine ⟨⟨by omega, by omega⟩, ?_⟩
  refine (hnew_any hr1 (n := nl) (by simp; omega) (fun x hx => (hbl1 hx).1)).mono ?_
  rintro e w61 ⟨hf61, p62, rfl, htab1⟩
  refine ⟨_, _, rfl, ⟨by omega, by omega⟩, ?_⟩
  refine (hnew_any (hr2.keep hf61 (by simp)) (n := l30.len - nl) (by simp; omega) (fun x hx => by have := (hbl1 hx).1; have := hf61.size; omega)).mono ?_
  rintro e w65 ⟨hf65, p66, rfl, htab2⟩
  have hf65' : Fr (fun _ => False) w31 w65 := hf61.trans' hf65
  have hfin : Fr (· = rb) w w65 := (toW hf31).trans' (hf65'.mono fun k _ hk => hk.elim)
  have hc1 : InfM.chkN (xs.take nl) = chk ((xs.take nl).map Int.ofNat) := rfl
  have hc2 : InfM.chkN (xs.drop nl) = chk ((xs.drop nl).map Int.ofNat) := rfl
  rw [hc1, hc2]
  obtain ⟨a, ha, hc⟩ := (ho31.keep hf65' (by simp)).reads 256 (.int .i64 ((xs.getD 256 0 : Nat) : Int)) (by
    rw [nv, List.getElem?_map, List.getD_eq_getElem?_getD, List.getElem?_eq_getElem (by omega)]; rfl)
  refine ⟨_, _, rfl, ⟨by decide, by omega⟩, a, ha, _, hc, fun h0 => ?_, fun hn0 => ⟨fun h1 => ?_, fun hn1 => ⟨fun h2 => ?_, fun hn2 => ?_⟩⟩⟩
  · have h0 := eq_of_beq h0
    rw [if_pos (.inl (by omega))]
    exact ⟨hfin, rfl, by decide⟩
  · rw [if_pos (.inr (.inl (by simpa using h1)))]
    exact ⟨hfin, rfl, by decide⟩
  · rw [if_pos (.inr (.inr (by simpa using h2)))]
    exact ⟨hfin, rfl, by decide⟩
  · have hn0 : xs.getD 256 0 ≠ 0 := fun hh => by rw [hh] at hn0; simp at hn0
    have hn1 : chk ((xs.take nl).map Int.ofNat) = 0 := by simpa using hn1
    have hn2 : chk ((xs.drop nl).map Int.ofNat) = 0 := by simpa using hn2
    rw [if_neg (fun hh => by rcases hh with hh | hh | hh <;> omega)]
    obtain ⟨lb1, rfl, ht1⟩ := htab1 hn1
    obtain ⟨db1, rfl, ht2⟩ := htab2 hn2
    rw [toNat_ofNat] at ht1 ht2
    have z1 := hf61.size
    have z2 := hf65.size
    have z3 := hfw25.size
    exact ⟨hfin, lb1, db1, rfl, (ht1.keep hf65 (by simp)).wide (by omega) (by omega), ht2.wide (by omega) (Nat.le_refl _), h31.keep hf65' (by simp)⟩
end Go.Proofs.YtaaimcbicpgjoaaGreatDoor
namespace InfM
open HuffM
theorem take_le {B : List Bool} {n p v p' : Nat} (h : take B n p = .ok (v, p')) : p' = p + n := by
  unfold take at h
  split at h
  · cases h; rfl
  · cases h
theorem sym_le {ls : List Nat} {B : List Bool} {p x p' : Nat} (h : sym ls B p = .ok (x, p')) : p ≤ p' := by
  unfold sym at h
  split at h
  · cases h; omega
  · split at h <;> cases h
theorem firsts_le {B : List Bool} : ∀ (r : List Nat) (p : Nat) (l l' : List Nat) (p' : Nat), firsts B r p l = .ok (l', p') → p ≤ p'
  | [], p, l, l', p', h => by simp only [firsts, Except.ok.injEq, Prod.mk.injEq] at h; omega
  | i :: r, p, l, l', p', h => by
    rw [firsts] at h
    split at h
    · cases h
    · rename_i ht
      have := take_le ht
      have := firsts_le r _ _ _ _ h
      omega
theorem clens_le {cl : List Nat} {tot : Nat} {B : List Bool} : ∀ (f p : Nat) (l l' : List Nat) (p' : Nat), clens cl tot B f p l = .ok (l', p') → p ≤ p'
  | 0, p, l, l', p', h => by cases h
  | f + 1, p, l, l', p', h => by
    rw [clens] at h
    split at h
    · cases h; omega
    split at h
    · cases h
    rename_i s p1 hs
    have h1 := sym_le hs
    split at h
    · have := clens_le f _ _ _ _ h; omega
    split at h
    · cases h
    split at h
    · cases h
    rename_i n p2 ht
    have h2 := take_le ht
    have key : ∀ k what, (if tot < l.length + k then (Except.error 3 : E (List Nat)) else clens cl tot B f p2 (l ++ List.replicate k what)) = .ok (l', p') → p ≤ p' := fun k what h => by
      split at h
      · cases h
      · have := clens_le f _ _ _ _ h; omega
    exact key _ _ h
theorem tables_le {B : List Bool} {p p' : Nat} {x : List Nat × List Nat} (h : tables B p = .ok (x, p')) : p ≤ p' := by
  unfold tables at h
  split at h
  · cases h
  rename_i h1
  have h1 := take_le h1
  simp only at h
  split at h
  · cases h
  split at h
  · cases h
  rename_i h2
  have h2 := firsts_le _ _ _ _ _ h2
  split at h
  · cases h
  split at h
  · cases h
  rename_i h3
  have h3 := clens_le _ _ _ _ _ h3
  split at h
  · cases h
  · cases h; omega
theorem rep_le {dist : List Nat} {most s p p' : Nat} {B : List Bool} {out out' : List UInt8} (h : rep dist most B s p out = .ok (out', p')) : p ≤ p' := by
  unfold rep at h
  split at h
  · cases h
  split at h
  · cases h
  rename_i h1
  have h1 := take_le h1
  split at h
  · cases h
  rename_i h2
  have h2 := sym_le h2
  split at h
  · cases h
  split at h
  · cases h
  rename_i h3
  have h3 := take_le h3
  simp only at h
  split at h
  · cases h
  split at h
  · cases h
  · cases h; omega
theorem stored_le {most p p' : Nat} {B : List Bool} {out out' : List UInt8} (h : stored most B p out = .ok (out', p')) : p ≤ p' := by
  unfold stored at h
  simp only at h
  split at h
  · split at h
    · cases h
    · split at h
      · split at h
        · cases h
        · cases h; omega
      · split at h <;> cases h
  · cases h
end InfM
namespace Go.Proofs.YtaaimcbicpgjoaaGreatDoor
open Go Vc BitsM HuffM Go.Proofs

/-- The reader's place, out of its cells. -/
def posOf (w : World) (rb : Nat) : Nat := 8 * cellNat w ⟨rb, 1, none⟩ - cellNat w ⟨rb, 3, none⟩
theorem Rd.posOf {w : World} {rb : Nat} {s : ByteArray} {pos : Nat} {from_ : Int} (h : Rd w rb s pos from_) : posOf w rb = pos := by
  obtain ⟨a, h⟩ := h
  have := h.lo
  unfold Go.Proofs.YtaaimcbicpgjoaaGreatDoor.posOf cellNat
  rw [h.c1, h.c3]
  simp; omega
/-- What the run comes to. -/
def RunR (w w' : World) (base0 base b rb : Nat) (s : ByteArray) (off most : Nat) (r : InfM.E (List UInt8)) (err : Int) : Prop :=
  Fr (fun k => base0 ≤ k) w w' ∧ match r with
  | .error e => err = (e : Int) ∧ e ≠ 0
  | .ok (out, p) => err = 0 ∧ ∃ sl', St w' base b rb sl' s off p out most
/-- Behind a block's text. -/
noncomputable def after (most : Nat) (B : List Bool) (f h : Nat) (r : InfM.E (List UInt8)) : InfM.E (List UInt8) := match r with
  | .error e => .error e
  | .ok (out, p) => if h % 2 = 1 then .ok (out, p) else InfM.blocks most B f p out

theorem run_spec {w : World} {base0 base b rb off most : Nat} {sl : Sl} {s : ByteArray} (h : St w base b rb sl s off 0 [] most) (h0b : base0 ≤ b) (h0r : base0 ≤ rb) :
    Calls Tryz.prog F_inflate_state_run #[.pointer (some ⟨b, 0, none⟩)] w fun e w' =>
      ∃ err : Int, e = .returned (.int .i64 err) ∧ RunR w w' base0 base b rb s off most (InfM.inf most (bitsFrom s off)) err := by
  refine vc_inflate_state_run_ok (R := fun v w' => ∃ err : Int, v = .int .i64 err ∧ RunR w w' base0 base b rb s off most (InfM.inf most (bitsFrom s off)) err) ?_ (fun v w' ⟨e, h⟩ => ⟨e, by rw [h.1], h.2⟩)
  have hBl := bitsFrom_length s off
  generalize hB : bitsFrom s off = B at hBl
  have hN : ∀ {wx : World} {slx : Sl} {p : Nat} {out : List UInt8}, St wx base b rb slx s off p out most → p ≤ B.length ∧ posOf wx rb = 8 * off + p := fun hx => by
    have := hx.le; rw [hx.rd.posOf]; exact ⟨by omega, rfl⟩
  have coarse : ∀ {w1 w2 : World} {slx : Sl} {p : Nat} {out : List UInt8}, St w1 base b rb slx s off p out most → Fr (SX b rb slx) w1 w2 → Fr (fun k => base0 ≤ k) w1 w2 := fun hx hf => hf.mono fun k _ hk => by
    rcases hk with hk | hk | ⟨y, hy, e⟩
    · omega
    · omega
    · have := (hx.own.blk hy).1; have := hx.hb; omega
  have coarseR : ∀ {w1 w2 : World}, Fr (· = rb) w1 w2 → Fr (fun k => base0 ≤ k) w1 w2 := fun hf => hf.mono fun k _ hk => by omega
  obtain ⟨N, hNN⟩ : ∃ N, 8 * off + B.length = N := ⟨_, rfl⟩
  -- what is said at the labels
  let Ib : World → Prop := fun w1 => ∃ f p out sl1, InfM.inf most B = InfM.blocks most B f p out ∧ B.length + 1 ≤ f + p ∧ St w1 base b rb sl1 s off p out most ∧ Fr (fun k => base0 ≤ k) w w1
  let Id : Int → World → Prop := fun hh w1 => ∃ (hd : Nat) (f p : Nat) (out : List UInt8) (sl1 : Sl), hh = (hd : Int) ∧ hd < 8 ∧ InfM.inf most B = after most B f hd (.ok (out, p)) ∧ B.length + 1 ≤ f + p ∧ St w1 base b rb sl1 s off p out most ∧ Fr (fun k => base0 ≤ k) w w1
  let Is : Int → Option Addr → Option Addr → World → Prop := fun hh pl pd w1 => ∃ (hd : Nat) (f g p : Nat) (out : List UInt8) (sl1 : Sl) (ls ds : List Nat) (lb db lo hi : Nat), hh = (hd : Int) ∧ hd < 8 ∧ pl = some ⟨lb, 0, none⟩ ∧ pd = some ⟨db, 0, none⟩ ∧
    InfM.inf most B = after most B f hd (InfM.packed ls ds most B g p out) ∧ B.length + 1 ≤ f + p ∧ B.length + 1 ≤ g + p ∧ Tab w1 lo hi lb ls ∧ Tab w1 lo hi db ds ∧ rb < lo ∧ b < lo ∧ (∀ y, sl1.a = some y → y.block < lo ∨ hi ≤ y.block) ∧ hi ≤ w1.heap.size ∧
    St w1 base b rb sl1 s off p out most ∧ Fr (fun k => base0 ≤ k) w w1
  let Mb : World → Nat := fun w1 => 3 * (N - posOf w1 rb) + 1
  let Md : Int → World → Nat := fun _ w1 => 3 * (N - posOf w1 rb) + 2
  let Ms : Int → Option Addr → Option Addr → World → Nat := fun _ _ _ w1 => 3 * (N - posOf w1 rb)
  refine ⟨Ib, Mb, Id, Md, Is, Ms, ?_, fun w1 hI => ?_, ?_, ?_, trivial⟩
  · have hI : Ib w := ⟨B.length + 1, 0, [], sl, rfl, by omega, h, .refl _ _⟩
    obtain ⟨f, p, out, sl1, hres, hfp, h1, hf1⟩ := hI
    obtain ⟨f, rfl⟩ : ∃ g, f = g + 1 := ⟨f - 1, by have := (hN h1).1; omega⟩
    rw [InfM.blocks] at hres
    refine ⟨_, h1.c0, ?_⟩
    refine (stbits_spec h1 (n := 3) (by omega)).mono ?_
    rw [hB]
    rintro e w2 ⟨hf2, ⟨hd, p2, htk, hhd, hp2, rfl, h2⟩ | ⟨htk, rfl⟩⟩
    rotate_left
    · rw [htk] at hres
      rw [hres]
      exact ⟨_, _, rfl, fun _ => ⟨6, rfl, hf1.trans' (coarseR hf2), rfl, by decide⟩, fun hh => by cases hh⟩
    rw [htk] at hres
    replace hres : InfM.inf most B = after most B f hd (InfM.block most B (hd / 2) p2 out) := hres
    have hf2' := hf1.trans' (coarseR hf2)
    have e1 : Int.fdiv (hd : Int) (2 ^ min (Int.toNat 1) 32) = ((hd / 2 : Nat) : Int) := by
      rw [show (2 : Int) ^ min (Int.toNat 1) 32 = ((2 : Nat) : Int) from rfl, Int.fdiv_eq_ediv_of_nonneg _ (Int.natCast_nonneg _), ← Int.natCast_ediv]
    refine ⟨_, _, rfl, fun hh => (by cases hh), fun _ => ⟨by decide, ?_⟩⟩
    rw [e1]
    have hpos1 := (hN h1).2
    have hpos2 := (hN h2).2
    have hle2 := (hN h2).1
    refine ⟨fun hk0 => ?_, fun hk0 => ⟨fun hk1 => ?_, fun hk1 => ⟨fun hk2 => ?_, fun hk2 => ?_⟩⟩⟩
    · have hk0 : hd / 2 = 0 := by have := eq_of_beq hk0; omega
      rw [InfM.block, if_pos hk0] at hres
      refine (stored_spec h2).mono ?_
      rw [hB]
      rintro e w3 ⟨err, rfl, hf3, hr3⟩
      have hf3' := hf2'.trans' (coarse h2 hf3)
      cases hst : InfM.stored most B p2 out with
      | error er =>
        rw [hst] at hr3 hres
        obtain ⟨rfl, hne⟩ := hr3
        replace hres : InfM.inf most B = .error er := hres
        rw [hres]
        refine ⟨_, rfl, fun _ => ⟨_, rfl, hf3', rfl, hne⟩, fun hh => ?_⟩
        exact absurd hh (by simpa using hne)
      | ok x =>
        obtain ⟨out3, p3⟩ := x
        rw [hst] at hr3 hres
        obtain ⟨rfl, sl3, h3, _⟩ := hr3
        have hle3 := InfM.stored_le hst
        obtain ⟨hpos3, hpos3'⟩ := hN h3
        refine ⟨_, rfl, fun hh => (by simp at hh), fun _ => ?_⟩
        have hId : Id (hd : Int) w3 := ⟨hd, f, p3, out3, sl3, rfl, by omega, hres, by omega, h3, hf3'⟩
        exact hId
    · have hk0 : hd / 2 ≠ 0 := fun hh => by rw [hh] at hk0; simp at hk0
      have hk1 : hd / 2 = 1 := by have := eq_of_beq hk1; omega
      rw [InfM.block, if_neg hk0, if_pos hk1] at hres
      refine (fixed_spec w2).mono ?_
      rintro e w3 ⟨lb, db, rfl, ht1, ht2, hf3⟩
      have h3 := h2.keep hf3 (by simp)
      have hpos3' := (hN h3).2
      refine ⟨_, _, rfl, ?_⟩
      have hIs : Is (hd : Int) (some ⟨lb, 0, none⟩) (some ⟨db, 0, none⟩) w3 := ⟨hd, f, B.length + 1, p2, out, sl1, _, _, lb, db, w2.heap.size, w3.heap.size, rfl, by omega, rfl, rfl, hres, by omega, by omega, ht1, ht2, h2.lts.2.1, h2.lts.1, fun y hy => .inl (h2.lts.2.2 y hy), Nat.le_refl _, h3, hf2'.trans' (hf3.mono fun k _ hk => hk.elim)⟩
      exact hIs
    · have hk0 : hd / 2 ≠ 0 := fun hh => by rw [hh] at hk0; simp at hk0
      have hk1 : hd / 2 ≠ 1 := fun hh => by rw [hh] at hk1; simp at hk1
      have hk2 : hd / 2 = 2 := by have := eq_of_beq hk2; omega
      rw [InfM.block, if_neg hk0, if_neg hk1, if_pos hk2] at hres
      refine (tables_spec h2).mono ?_
      rw [hB]
      rintro e w3 ⟨v, rfl, hf3, hr3⟩
      cases htb : InfM.tables B p2 with
      | error er =>
        rw [htb] at hr3 hres
        obtain ⟨rfl, hne⟩ := hr3
        replace hres : InfM.inf most B = .error er := hres
        rw [hres]
        refine ⟨_, _, _, rfl, fun _ => ⟨_, rfl, hf2'.trans' (coarseR hf3), rfl, hne⟩, fun hh => ?_⟩
        exact absurd hh (by simpa using hne)
      | ok x =>
        obtain ⟨⟨lit, dist⟩, p3⟩ := x
        rw [htb] at hr3 hres
        obtain ⟨lb, db, rfl, ht1, ht2, h3⟩ := hr3
        have hle3 := InfM.tables_le htb
        obtain ⟨hpos3, hpos3'⟩ := hN h3
        refine ⟨_, _, _, rfl, fun hh => (by simp at hh), fun _ => ?_⟩
        have hIs : Is (hd : Int) (some ⟨lb, 0, none⟩) (some ⟨db, 0, none⟩) w3 := ⟨hd, f, B.length + 1, p3, out, sl1, _, _, lb, db, w2.heap.size, w3.heap.size, rfl, by omega, rfl, rfl, hres, by omega, by omega, ht1, ht2, h2.lts.2.1, h2.lts.1, fun y hy => .inl (h2.lts.2.2 y hy), Nat.le_refl _, h3, hf2'.trans' (coarseR hf3)⟩
        exact hIs
    · have hk0 : hd / 2 ≠ 0 := fun hh => by rw [hh] at hk0; simp at hk0
      have hk1 : hd / 2 ≠ 1 := fun hh => by rw [hh] at hk1; simp at hk1
      have hk2 : hd / 2 ≠ 2 := fun hh => by rw [hh] at hk2; simp at hk2
      rw [InfM.block, if_neg hk0, if_neg hk1, if_neg hk2] at hres
      replace hres : InfM.inf most B = .error 3 := hres
      rw [hres]
      exact ⟨3, rfl, hf2', rfl, by decide⟩
  · obtain ⟨f, p, out, sl1, hres, hfp, h1, hf1⟩ := hI
    obtain ⟨f, rfl⟩ : ∃ g, f = g + 1 := ⟨f - 1, by have := (hN h1).1; omega⟩
    rw [InfM.blocks] at hres
    refine ⟨_, h1.c0, ?_⟩
    refine (stbits_spec h1 (n := 3) (by omega)).mono ?_
    rw [hB]
    rintro e w2 ⟨hf2, ⟨hd, p2, htk, hhd, hp2, rfl, h2⟩ | ⟨htk, rfl⟩⟩
    rotate_left
    · rw [htk] at hres
      rw [hres]
      exact ⟨_, _, rfl, fun _ => ⟨6, rfl, hf1.trans' (coarseR hf2), rfl, by decide⟩, fun hh => by cases hh⟩
    rw [htk] at hres
    replace hres : InfM.inf most B = after most B f hd (InfM.block most B (hd / 2) p2 out) := hres
    have hf2' := hf1.trans' (coarseR hf2)
    have e1 : Int.fdiv (hd : Int) (2 ^ min (Int.toNat 1) 32) = ((hd / 2 : Nat) : Int) := by
      rw [show (2 : Int) ^ min (Int.toNat 1) 32 = ((2 : Nat) : Int) from rfl, Int.fdiv_eq_ediv_of_nonneg _ (Int.natCast_nonneg _), ← Int.natCast_ediv]
    refine ⟨_, _, rfl, fun hh => (by cases hh), fun _ => ⟨by decide, ?_⟩⟩
    rw [e1]
    have hpos1 := (hN h1).2
    have hpos2 := (hN h2).2
    have hle2 := (hN h2).1
    refine ⟨fun hk0 => ?_, fun hk0 => ⟨fun hk1 => ?_, fun hk1 => ⟨fun hk2 => ?_, fun hk2 => ?_⟩⟩⟩
    · have hk0 : hd / 2 = 0 := by have := eq_of_beq hk0; omega
      rw [InfM.block, if_pos hk0] at hres
      refine (stored_spec h2).mono ?_
      rw [hB]
      rintro e w3 ⟨err, rfl, hf3, hr3⟩
      have hf3' := hf2'.trans' (coarse h2 hf3)
      cases hst : InfM.stored most B p2 out with
      | error er =>
        rw [hst] at hr3 hres
        obtain ⟨rfl, hne⟩ := hr3
        replace hres : InfM.inf most B = .error er := hres
        rw [hres]
        refine ⟨_, rfl, fun _ => ⟨_, rfl, hf3', rfl, hne⟩, fun hh => ?_⟩
        exact absurd hh (by simpa using hne)
      | ok x =>
        obtain ⟨out3, p3⟩ := x
        rw [hst] at hr3 hres
        obtain ⟨rfl, sl3, h3, _⟩ := hr3
        have hle3 := InfM.stored_le hst
        obtain ⟨hpos3, hpos3'⟩ := hN h3
        refine ⟨_, rfl, fun hh => (by simp at hh), fun _ => ?_⟩
        have hId : Id (hd : Int) w3 := ⟨hd, f, p3, out3, sl3, rfl, by omega, hres, by omega, h3, hf3'⟩
        exact ⟨hId, by dsimp only [Md, Mb]; omega⟩
    · have hk0 : hd / 2 ≠ 0 := fun hh => by rw [hh] at hk0; simp at hk0
      have hk1 : hd / 2 = 1 := by have := eq_of_beq hk1; omega
      rw [InfM.block, if_neg hk0, if_pos hk1] at hres
      refine (fixed_spec w2).mono ?_
      rintro e w3 ⟨lb, db, rfl, ht1, ht2, hf3⟩
      have h3 := h2.keep hf3 (by simp)
      have hpos3' := (hN h3).2
      refine ⟨_, _, rfl, ?_⟩
      have hIs : Is (hd : Int) (some ⟨lb, 0, none⟩) (some ⟨db, 0, none⟩) w3 := ⟨hd, f, B.length + 1, p2, out, sl1, _, _, lb, db, w2.heap.size, w3.heap.size, rfl, by omega, rfl, rfl, hres, by omega, by omega, ht1, ht2, h2.lts.2.1, h2.lts.1, fun y hy => .inl (h2.lts.2.2 y hy), Nat.le_refl _, h3, hf2'.trans' (hf3.mono fun k _ hk => hk.elim)⟩
      exact ⟨hIs, by dsimp only [Ms, Mb]; omega⟩
    · have hk0 : hd / 2 ≠ 0 := fun hh => by rw [hh] at hk0; simp at hk0
      have hk1 : hd / 2 ≠ 1 := fun hh => by rw [hh] at hk1; simp at hk1
      have hk2 : hd / 2 = 2 := by have := eq_of_beq hk2; omega
      rw [InfM.block, if_neg hk0, if_neg hk1, if_pos hk2] at hres
      refine (tables_spec h2).mono ?_
      rw [hB]
      rintro e w3 ⟨v, rfl, hf3, hr3⟩
      cases htb : InfM.tables B p2 with
      | error er =>
        rw [htb] at hr3 hres
        obtain ⟨rfl, hne⟩ := hr3
        replace hres : InfM.inf most B = .error er := hres
        rw [hres]
        refine ⟨_, _, _, rfl, fun _ => ⟨_, rfl, hf2'.trans' (coarseR hf3), rfl, hne⟩, fun hh => ?_⟩
        exact absurd hh (by simpa using hne)
      | ok x =>
        obtain ⟨⟨lit, dist⟩, p3⟩ := x
        rw [htb] at hr3 hres
        obtain ⟨lb, db, rfl, ht1, ht2, h3⟩ := hr3
        have hle3 := InfM.tables_le htb
        obtain ⟨hpos3, hpos3'⟩ := hN h3
        refine ⟨_, _, _, rfl, fun hh => (by simp at hh), fun _ => ?_⟩
        have hIs : Is (hd : Int) (some ⟨lb, 0, none⟩) (some ⟨db, 0, none⟩) w3 := ⟨hd, f, B.length + 1, p3, out, sl1, _, _, lb, db, w2.heap.size, w3.heap.size, rfl, by omega, rfl, rfl, hres, by omega, by omega, ht1, ht2, h2.lts.2.1, h2.lts.1, fun y hy => .inl (h2.lts.2.2 y hy), Nat.le_refl _, h3, hf2'.trans' (coarseR hf3)⟩
        exact ⟨hIs, by dsimp only [Ms, Mb]; omega⟩
    · have hk0 : hd / 2 ≠ 0 := fun hh => by rw [hh] at hk0; simp at hk0
      have hk1 : hd / 2 ≠ 1 := fun hh => by rw [hh] at hk1; simp at hk1
      have hk2 : hd / 2 ≠ 2 := fun hh => by rw [hh] at hk2; simp at hk2
      rw [InfM.block, if_neg hk0, if_neg hk1, if_neg hk2] at hres
      replace hres : InfM.inf most B = .error 3 := hres
      rw [hres]
      exact ⟨3, rfl, hf2', rfl, by decide⟩
  · rintro hh w1 ⟨hd, f, p, out, sl1, rfl, hd8, hres, hfp, h1, hf1⟩
    have e1 : IntKind.u32.wrap (((BitVec.ofInt 32 (hd : Int) &&& BitVec.ofInt 32 1).toNat : Nat) : Int) = ((hd % 2 : Nat) : Int) := by
      have := and_nat 32 hd 1 (by omega) (by decide)
      rw [show ((1 : Nat) : Int) = 1 from rfl, show hd &&& 1 = hd % 2 from and_mask hd 1] at this
      rw [this, wrap_u32 (by omega) (by omega)]
    rw [e1]
    simp only [after] at hres
    refine ⟨fun h0 => ?_, fun h0 => ?_⟩
    · have h0 : hd % 2 = 0 := by have := eq_of_beq h0; omega
      rw [if_neg (by omega)] at hres
      exact ⟨⟨f, p, out, sl1, hres, hfp, h1, hf1⟩, by dsimp only [Md, Mb]; omega⟩
    · have h0 : hd % 2 ≠ 0 := fun hh => by rw [hh] at h0; simp at h0
      rw [if_pos (by omega)] at hres
      rw [hres]
      exact ⟨0, rfl, hf1, rfl, sl1, h1⟩
  · rintro hh pl pd w1 ⟨hd, f, g, p, out, sl1, ls, ds, lb, db, lo, hi, rfl, hd8, rfl, rfl, hres, hfp, hgp, ht1, ht2, hrlo, hblo, hslo, hhi, h1, hf1⟩
    obtain ⟨g, rfl⟩ : ∃ g', g = g' + 1 := ⟨g - 1, by have := (hN h1).1; omega⟩
    rw [InfM.packed] at hres
    refine ⟨_, h1.c0, ?_⟩
    refine (stread_spec h1 ht1 (.inl hrlo)).mono ?_
    rw [hB]
    have hpos1 := (hN h1).2
    rintro e w2 ⟨hf2, ⟨x, p2, hsy, hp2, hx, rfl, h2⟩ | ⟨err, hsy, hne, rfl⟩⟩
    rotate_left
    · rw [hsy] at hres
      replace hres : InfM.inf most B = .error err := hres
      rw [hres]
      refine ⟨_, _, rfl, fun _ => ⟨err, rfl, hf1.trans' (coarseR hf2), rfl, hne⟩, fun hh => ?_⟩
      exact absurd hh (by simpa using hne)
    rw [hsy] at hres
    simp only at hres
    have hf2' := hf1.trans' (coarseR hf2)
    obtain ⟨hle2, hpos2⟩ := hN h2
    have hsm := ht1.small
    have ht1' := ht1.keep hf2 (fun k a b hk => by omega)
    have ht2' := ht2.keep hf2 (fun k a b hk => by omega)
    have hs2 := hf2.size
    have nsx : ∀ k, lo ≤ k → k < hi → ¬ SX b rb sl1 k := fun k a c hk => by
      rcases hk with hk | hk | ⟨y, hy, e⟩
      · omega
      · omega
      · have := hslo y hy; omega
    have more : ∀ {w3 : World} {sl3 : Sl} {p3 : Nat} {out3 : List UInt8}, p2 ≤ p3 → Fr (SX b rb sl1) w2 w3 → St w3 base b rb sl3 s off p3 out3 most → Since w2 sl1 sl3 → InfM.inf most B = after most B f hd (InfM.packed ls ds most B g p3 out3) →
        Is (hd : Int) (some ⟨lb, 0, none⟩) (some ⟨db, 0, none⟩) w3 ∧ Ms (hd : Int) (some ⟨lb, 0, none⟩) (some ⟨db, 0, none⟩) w3 < Ms (hd : Int) (some ⟨lb, 0, none⟩) (some ⟨db, 0, none⟩) w1 := by
      intro w3 sl3 p3 out3 hp3 hf3 h3 hs3 hres3
      obtain ⟨hle3, hpos3⟩ := hN h3
      have := hf3.size
      refine ⟨⟨hd, f, g, p3, out3, sl3, ls, ds, lb, db, lo, hi, rfl, hd8, rfl, rfl, hres3, by omega, by omega, ht1'.keep hf3 nsx, ht2'.keep hf3 nsx, hrlo, hblo, fun y hy => ?_, by omega, h3, hf2'.trans' (coarse h2 hf3)⟩, by dsimp only [Ms]; omega⟩
      rcases hs3 y hy with ⟨z, hz, e⟩ | hn
      · have := hslo z hz; omega
      · exact .inr (by omega)
    refine ⟨_, _, rfl, fun hh => (by simp at hh), fun _ => ⟨fun h256 => ?_, fun hn256 => ⟨fun hlt => ?_, fun hge => ?_⟩⟩⟩
    · have h256 : x = 256 := by have := eq_of_beq h256; omega
      rw [if_pos h256] at hres
      exact ⟨⟨hd, f, p2, out, sl1, rfl, hd8, hres, by omega, h2, hf2'⟩, by dsimp only [Md, Ms]; omega⟩
    · have hlt := of_decide_eq_true hlt
      have hlt : x < 256 := by omega
      rw [if_neg (by omega), if_pos hlt] at hres
      rw [wrap_u8 (by omega) (by omega)]
      refine (put_spec h2 hlt).mono ?_
      rintro e w3 ⟨err, rfl, hf3, hr3⟩
      by_cases hfull : out.length = most
      · rw [if_pos hfull] at hr3 hres
        obtain ⟨rfl, _⟩ := hr3
        replace hres : InfM.inf most B = .error 2 := hres
        rw [hres]
        exact ⟨_, rfl, fun hz => (by simp at hz), fun _ => ⟨2, rfl, hf2'.trans' (coarse h2 hf3), rfl, by decide⟩⟩
      · rw [if_neg hfull] at hr3 hres
        obtain ⟨rfl, sl3, h3, hs3⟩ := hr3
        exact ⟨_, rfl, fun _ => more (Nat.le_refl _) hf3 h3 hs3 hres, fun hz => (by simp at hz)⟩
    · have hge := of_decide_eq_false hge
      have hn256 : x ≠ 256 := fun hh => by subst hh; simp at hn256
      rw [if_neg hn256, if_neg (by omega)] at hres
      refine (repeat_spec h2 ht2' (.inl hrlo) (by omega) (by omega)).mono ?_
      rw [hB]
      rintro e w3 ⟨err, rfl, hf3, hr3⟩
      cases hrp : InfM.rep ds most B x p2 out with
      | error er =>
        rw [hrp] at hr3 hres
        obtain ⟨rfl, hne⟩ := hr3
        replace hres : InfM.inf most B = .error er := hres
        rw [hres]
        refine ⟨_, rfl, fun hz => ?_, fun _ => ⟨_, rfl, hf2'.trans' (coarse h2 hf3), rfl, hne⟩⟩
        exact absurd hz (by simpa using hne)
      | ok y =>
        obtain ⟨out3, p3⟩ := y
        rw [hrp] at hr3 hres
        obtain ⟨rfl, sl3, h3, hs3⟩ := hr3
        exact ⟨_, rfl, fun _ => more (InfM.rep_le hrp) hf3 h3 hs3 hres, fun hz => (by simp at hz)⟩
end Go.Proofs.YtaaimcbicpgjoaaGreatDoor
namespace Go.Proofs.YtaaimcbicpgjoaaGreatDoor
open Go Vc BitsM HuffM Go.Proofs

/-- The three answers. -/
def ans3 (r : List UInt8 × Nat × Nat) : Value := .tuple #[.string ⟨r.1.toArray⟩, .int .i64 (r.2.1 : Int), .int .i64 (r.2.2 : Int)]
theorem infl_spec' (s : ByteArray) (hs : s.size ≤ 140737488351232) (at_ most : Int) (w : World) :
    Calls Tryz.prog F_inflate_Inflate #[.string s, .int .i64 at_, .int .i64 most] w fun e w' => e = .returned (ans3 (InfM.inflate s.data.toList at_ most)) ∧ ((InfM.inflate s.data.toList at_ most).2.2 = 0 → ((InfM.inflate s.data.toList at_ most).1.length : Int) ≤ most ∧ ∃ x, InfM.inf most.toNat (sbits (s.data.toList.drop at_.toNat)) = .ok x) ∧ Fr (fun _ => False) w w' := by
  refine vc_inflate_Inflate_ok (R := fun v w' => v = ans3 (InfM.inflate s.data.toList at_ most) ∧ ((InfM.inflate s.data.toList at_ most).2.2 = 0 → ((InfM.inflate s.data.toList at_ most).1.length : Int) ≤ most ∧ ∃ x, InfM.inf most.toNat (sbits (s.data.toList.drop at_.toNat)) = .ok x) ∧ Fr (fun _ => False) w w') ?_ (fun v w' h => ⟨by rw [h.1], h.2⟩)
  have hsl : (s.data.toList.length : Int) = (s.size : Int) := by simp
  have bad : (at_ < 0 ∨ (s.size : Int) < at_ ∨ most < 0 ∨ 65536 < most) → InfM.inflate s.data.toList at_ most = ([], 0, 1) := fun h => by
    unfold InfM.inflate; rw [hsl, if_pos h]
  refine ⟨fun h1 => ?_, fun h1 => ⟨fun h2 => ?_, fun h2 => ⟨fun h3 => ?_, fun h3 => ⟨fun h4 => ?_, fun h4 => ?_⟩⟩⟩⟩
  · rw [bad (.inl (of_decide_eq_true h1))]; exact ⟨rfl, fun h => (by cases h), .refl _ _⟩
  · rw [bad (.inr (.inl (of_decide_eq_true h2)))]; exact ⟨rfl, fun h => (by cases h), .refl _ _⟩
  · rw [bad (.inr (.inr (.inl (of_decide_eq_true h3))))]; exact ⟨rfl, fun h => (by cases h), .refl _ _⟩
  · rw [bad (.inr (.inr (.inr (of_decide_eq_true h4))))]; exact ⟨rfl, fun h => (by cases h), .refl _ _⟩
  have h1 := of_decide_eq_false h1
  have h2 := of_decide_eq_false h2
  have h3 := of_decide_eq_false h3
  have h4 := of_decide_eq_false h4
  obtain ⟨off, rfl⟩ : ∃ off : Nat, at_ = (off : Int) := ⟨at_.toNat, by omega⟩
  obtain ⟨mo, rfl⟩ : ∃ mo : Nat, most = (mo : Int) := ⟨most.toNat, by omega⟩
  have good : InfM.inflate s.data.toList off mo = match InfM.inf mo (bitsFrom s off) with
      | .error e => ([], 0, e)
      | .ok (out, p) => (out, (p + 7) / 8, 0) := by
    unfold InfM.inflate
    rw [hsl, if_neg (by omega), Int.toNat_natCast, Int.toNat_natCast, sbits_drop] <;> rfl
  rw [good]
  refine (rnew_spec hs off w).mono ?_
  rw [Int.toNat_natCast, show min off s.size = off by omega]
  rintro e w2 ⟨rfl, hr, hf2⟩
  refine ⟨_, rfl, fun w4 h4' => ?_⟩
  have hlt := hr.lt
  have hf4 : Fr (fun _ => False) w2 w4 := h4' ▸ Fr.alloc _ _ _
  have hst : St w4 (w2.heap.size + 1) w2.heap.size w.heap.size ⟨none, 0, 0⟩ s off 0 [] mo :=
    ⟨by rw [h4']; exact alloc_new _ _, .nil _ _ _, hr.keep hf4 (by simp), by omega, by omega, by omega, by rw [h4']; simp, Nat.zero_le _, by omega⟩
  refine (run_spec hst (base0 := w.heap.size) (by omega) (Nat.le_refl _)).mono ?_
  rintro e w6 ⟨err, rfl, hf6, hres⟩
  have hfin : Fr (fun _ => False) w w6 := (hf2.trans' hf4).trans hf6 fun k hk h => by omega
  cases hi : InfM.inf mo (bitsFrom s off) with
  | error er =>
    rw [hi] at hres
    obtain ⟨rfl, hne⟩ := hres
    refine ⟨_, rfl, fun _ => ⟨rfl, fun h => absurd h hne, hfin⟩, fun hh => ?_⟩
    exact absurd hh (by simpa using hne)
  | ok x =>
    obtain ⟨out, p⟩ := x
    rw [hi] at hres
    obtain ⟨rfl, sl', h6⟩ := hres
    refine ⟨_, rfl, fun hh => (by simp at hh), fun _ w8 d8 => ?_⟩
    have h8 := h6.drew d8
    refine ⟨fun w' => Drew w8 w', .refl _, _, fun w' d => (h8.drew d).c1, _, fun w' d => (h8.drew d).c0, ⟨out.toArray⟩, fun w' d => ?_, ?_⟩
    · exact bytes_str (e := T_uint8) (by kernel_rfl) (by kernel_rfl) (by kernel_rfl) sl'.cap (h8.drew d).own.reads (h8.drew d).len.symm
    refine (used_spec h8.rd (by omega) (by omega)).mono ?_
    rintro e w17 ⟨rfl, d17⟩
    refine ⟨_, rfl, d17, ?_, fun _ => ⟨(by have := h8.fit; dsimp only; omega), (out, p), (by rw [Int.toNat_natCast, sbits_drop]; exact hi)⟩, (hfin.trans' (.drew _ d8)).trans' (.drew _ d17)⟩
    unfold ans3
    have : (((8 * off + p + 7) / 8 : Nat) : Int) - (off : Int) = (((p + 7) / 8 : Nat) : Int) := by omega
    rw [this]
    rfl

theorem infl_spec (s : ByteArray) (hs : s.size ≤ 140737488351232) (at_ most : Int) (w : World) :
    Calls Tryz.prog F_inflate_Inflate #[.string s, .int .i64 at_, .int .i64 most] w fun e w' => e = .returned (ans3 (InfM.inflate s.data.toList at_ most)) ∧ ((InfM.inflate s.data.toList at_ most).2.2 = 0 → ((InfM.inflate s.data.toList at_ most).1.length : Int) ≤ most) ∧ Fr (fun _ => False) w w' :=
  (infl_spec' s hs at_ most w).mono fun e w' h => ⟨h.1, fun h0 => (h.2.1 h0).1, h.2.2⟩

theorem awake_a : InfM.inflate [75, 4, 0] 0 9 = ([97], 3, 0) := by
  have hs1 : InfM.sym InfM.fixedLit (sbits [75, 4, 0]) 3 = .ok (97, 3 + 8) := InfM.sym_at (by unfold HuffM.At; decide +kernel)
  have hs2 : InfM.sym InfM.fixedLit (sbits [75, 4, 0]) 11 = .ok (256, 11 + 7) := InfM.sym_at (by unfold HuffM.At; decide +kernel)
  have ht : InfM.take (sbits [75, 4, 0]) 3 0 = .ok (3, 3) := by kernel_rfl
  have hl : (sbits [75, 4, 0]).length = 24 := by rw [sbits_length]; rfl
  have hd : sbits (([75, 4, 0] : List UInt8).drop (0 : Int).toNat) = sbits [75, 4, 0] := rfl
  unfold InfM.inflate InfM.inf
  rw [if_neg (by decide), hd]
  generalize sbits [75, 4, 0] = B at hs1 hs2 ht hl
  have hp : ∀ DD, InfM.packed InfM.fixedLit DD 9 B (24 + 1) 3 [] = .ok ([97], 18) := fun DD => by
    rw [InfM.packed, hs1]
    simp only
    rw [if_neg (by decide), if_pos (by decide), if_neg (by decide), InfM.packed, hs2]
    simp only
    rw [if_pos trivial]
    rfl
  have hb : InfM.block 9 B (3 / 2) 3 [] = .ok ([97], 18) := by
    rw [InfM.block, if_neg (by decide), if_pos (by decide), hl]
    exact hp _
  rw [hl, InfM.blocks, ht]
  simp only
  rw [show ((9 : Int).toNat) = 9 from rfl, hb]
  rfl
theorem awake_7 : InfM.inflate [7] 0 9 = ([], 0, 3) := by
  have ht : InfM.take (sbits [7]) 3 0 = .ok (7, 3) := by kernel_rfl
  have hl : (sbits [7]).length = 8 := by rw [sbits_length]; rfl
  have hd : sbits (([7] : List UInt8).drop (0 : Int).toNat) = sbits [7] := rfl
  unfold InfM.inflate InfM.inf
  rw [if_neg (by decide), hd]
  generalize sbits [7] = B at ht hl
  rw [hl, InfM.blocks, ht]
  rfl
end Go.Proofs.YtaaimcbicpgjoaaGreatDoor
