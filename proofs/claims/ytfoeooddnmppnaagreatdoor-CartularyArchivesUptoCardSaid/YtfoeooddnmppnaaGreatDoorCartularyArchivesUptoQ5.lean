/- Texts of this seat in one: made by a program of ours. -/
import Derived.Test.YtfoeooddnmppnaaGreatDoorCartularyArchivesUptoQ0
import Derived.Test.YtfoeooddnmppnaaGreatDoorCartularyArchivesUptoQ1
import Derived.Test.YtfoeooddnmppnaaGreatDoorCartularyArchivesUptoQ2
import Derived.Test.YtfoeooddnmppnaaGreatDoorCartularyArchivesUptoQ3
import Derived.Test.YtfoeooddnmppnaaGreatDoorCartularyArchivesUptoQ4
import Derived.Test.YtfoeooddnmppnaaGreatDoorProg
import Derived.Deep.Slices
import Derived.Deep.Fields
import Derived.ChangeSame
import Derived.SizedLaws
import Derived.Test.YtfoeooddnmppnaaGreatDoorRows
import Derived.Handed
import Derived.HandedShaped
import Derived.Test.YtfoeooddnmppnaaGreatDoorCards
import Derived.Test.YtfoeooddnmppnaaGreatDoorTie
import Derived.WalkKit
import Derived.ProofKit
import Derived.OpenShut
import Derived.ShutString
import Derived.ChangeOld
import Derived.Below
import Derived.SevenTiedAt
import Derived.LaidMore
import Derived.Lay
import Derived.LaidOnce
import Derived.Deep.DeepHandedRow
import Derived.Lib.Strings
/- Formulas of 1 Go functions of this seat (written by a program of the author's, vcgen.py), and that each is enough for the call. No condition. -/
set_option linter.unusedVariables false
namespace Go.Proofs.YtfoeooddnmppnaaGreatDoor
open Go Vc Go.Proofs
set_option maxRecDepth 100000
/-- cartularylaw24.Short -/
def vc_cartularylaw24_Short (x0a : Option Addr) (x0n : Nat) (x0c : Nat) (x1 : Int) (w : World) (R : Value → World → Prop) : Prop :=
  ∀ w1 : World,
  (w1 = World.alloc w (Obj.cells (Array.mk []) 54) →
    ∃ I2 : Sl → Int → World → Prop, ∃ I3 : Sl → Int → World → Nat, (I2 (Sl.mk (some (Addr.mk (Array.size (World.heap w)) 0 none)) 0 0) 0 w1 ∧
     ∀ l4 : Sl,
     ∀ n5 : Int,
     ∀ w6 : World,
     (I2 l4 n5 w6 →
       (((decide (n5 < (↑x0n : Int)) = true →
          (((decide (n5 < x1) = true →
             ((0 ≤ n5 ∧
               n5 < (↑x0n : Int)) ∧
              ∃ a7 : Addr, (x0a = some a7 ∧
               ∃ s8 : ByteArray, ∃ n9 : Int, ∃ s10 : ByteArray, (Sem.run Tryz.prog (loadVar 54 (Addr.add a7 (Int.toNat n5 * 3))) w6 = Result.ok (Value.agg (Array.mk [Value.string s8, Value.int IntKind.i64 n9, Value.string s10])) w6 ∧
                ∀ w11 : World,
                (w11 = World.alloc w6 (Obj.cells (Array.mk [Value.string (ByteArray.mk (Array.mk [])), Value.int IntKind.i64 0, Value.string (ByteArray.mk (Array.mk []))]) 54) →
                  ∃ w12 : World, (Sem.run Tryz.prog (storeVar 54 (Addr.mk (Array.size (World.heap w6)) 0 none) (Value.agg (Array.mk [Value.string s8, Value.int IntKind.i64 n9, Value.string s10]))) w11 = Result.ok PUnit.unit w12 ∧
                   ∃ s13 : ByteArray, (World.cell? w12 (Addr.mk (Array.size (World.heap w6)) 2 none) = some (Value.string s13) ∧
                    Calls Tryz.prog (35 : Nat) (Array.mk [Value.string s13, Value.int IntKind.i64 400]) (w12) (fun e14 w15 =>
                      ∃ s16 : ByteArray, (e14 = Ending.returned (Value.string s16) ∧
                       (Wr w15 (Addr.mk (Array.size (World.heap w6)) 2 none) ∧
                        ∀ w17 : World,
                        (w17 = World.setCell w15 (Addr.mk (Array.size (World.heap w6)) 2 none) (Value.string s16) →
                          ∃ s18 : ByteArray, ∃ n19 : Int, ∃ s20 : ByteArray, (Sem.run Tryz.prog (loadVar 54 (Addr.mk (Array.size (World.heap w6)) 0 none)) w17 = Result.ok (Value.agg (Array.mk [Value.string s18, Value.int IntKind.i64 n19, Value.string s20])) w17 ∧
                           ∀ w21 : World,
                           (w21 = World.alloc w17 (Obj.cells (Array.mk [Value.string s18, Value.int IntKind.i64 n19, Value.string s20]) 54) →
                             ∃ w22 : World, ∃ l23 : Sl, (Sem.run Tryz.prog (Builtin.append_ (Array.mk [22, 22]) 22 (Array.mk [Value.slice l4.1 l4.2 l4.3, Value.slice (some (Addr.mk (Array.size (World.heap w17)) 0 none)) 1 1])) w21 = Result.ok (Value.slice l23.1 l23.2 l23.3) w22 ∧
                              (I2 (Sl.mk l23.1 l23.2 l23.3) (IntKind.wrap IntKind.i64 (n5 + 1)) w22 ∧
                               I3 (Sl.mk l23.1 l23.2 l23.3) (IntKind.wrap IntKind.i64 (n5 + 1)) w22 < I3 l4 n5 w6)))))))))))))))) ∧
           (decide (n5 < x1) = false →
             R (Value.slice l4.1 l4.2 l4.3) w6)))) ∧
        (decide (n5 < (↑x0n : Int)) = false →
          R (Value.slice l4.1 l4.2 l4.3) w6)))))
theorem vc_cartularylaw24_Short_ok {x0a : Option Addr} {x0n : Nat} {x0c : Nat} {x1 : Int} {w : World} {R : Value → World → Prop} {R' : Ending → World → Prop} (h : vc_cartularylaw24_Short x0a x0n x0c x1 w R) (hR : ∀ v w', R v w' → R' (.returned v) w') :
    Calls Tryz.prog 6 #[.slice x0a x0n x0c, .int .i64 x1] w R' :=
  calls_of_body (vs := [(.slice x0a x0n x0c, false), (.int .i64 x1, false)]) (ty := ty) (ann := ⟨[], [(3, [(5, .slice), (6, .int .i64)])], [], []⟩) (c := Tryz.f6.body.getD .skip) (by kernel_rfl) Tryz.func6 (by kernel_rfl) (by kernel_rfl) (Eq.mp (by kernel_rfl) h) hR
end Go.Proofs.YtfoeooddnmppnaaGreatDoor

/- Chapter 24's Short of items; the hash of no files. Conditions: as named. -/
set_option linter.unusedVariables false
namespace Go.Proofs.YtfoeooddnmppnaaGreatDoor
open Go Vc ShaM HexM StabM B64M Go.Proofs

theorem hash0 : hashE [] = ⟨#[104, 49, 58, 52, 55, 68, 69, 81, 112, 106, 56, 72, 66, 83, 97, 43, 47, 84, 73, 109, 87, 43, 53, 74, 67, 101, 117, 81, 101, 82, 107, 109, 53, 78, 77, 112, 74, 87, 90, 71, 51, 104, 83, 117, 70, 85, 61]⟩ := by kernel_rfl
/-- An item of at most 400 bytes. -/
def cutI (x : ItE) : ItE := ⟨x.path, x.mode, fewB x.data 400⟩
def shortI (xs : List ItE) (m : Nat) : List ItE := (xs.take m).map cutI
theorem short24_spec {w : World} {a : Option Addr} {n c : Nat} {xs : List ItE} (hr : ReadsK encI 3 w a xs) (hn : xs.length = n) (m : Nat) (hm : m ≤ 1000) : Calls Tryz.prog F_cartularylaw24_Short #[.slice a n c, .int .i64 m] w fun e w' =>
    ∃ l, e = .returned (.slice l.a l.len l.cap) ∧ OwnK encI 3 w' w.heap.size T_modzip_Item l (shortI xs m) ∧ Fr (fun _ => False) w w' := by
  refine vc_cartularylaw24_Short_ok (R := fun v w' => ∃ l : Sl, v = .slice l.a l.len l.cap ∧ OwnK encI 3 w' w.heap.size T_modzip_Item l (shortI xs m) ∧ Fr (fun _ => False) w w') ?_ (fun v w' ⟨l, h⟩ => ⟨l, by rw [h.1], h.2⟩)
  intro w1 h1
  have hf1 : Fr (fun _ => False) w w1 := by rw [h1]; exact .alloc _ _ _
  have ho1 : OwnK encI 3 w1 w.heap.size T_modzip_Item ⟨some ⟨w.heap.size, 0, none⟩, 0, 0⟩ [] := by rw [h1]; exact .empty w T_modzip_Item
  refine ⟨fun l i w' => ∃ k : Nat, i = k ∧ k ≤ xs.length ∧ k ≤ m ∧ OwnK encI 3 w' w.heap.size T_modzip_Item l ((xs.take k).map cutI) ∧ Fr (fun _ => False) w w', fun _ i _ => xs.length - i.toNat, ⟨0, rfl, Nat.zero_le _, Nat.zero_le _, ho1, hf1⟩, ?_⟩
  rintro l i w6 ⟨k, rfl, hk, hkm, ho, hf⟩
  refine ⟨fun hlt => ⟨fun hlm => ?_, fun hge => ⟨l, rfl, ?_, hf⟩⟩, fun hge => ⟨l, rfl, ?_, hf⟩⟩
  · have hlt := of_decide_eq_true hlt
    have hlm := of_decide_eq_true hlm
    have hkl : k < xs.length := by omega
    have hx : xs[k]? = some xs[k] := List.getElem?_eq_getElem hkl
    have htk : xs.take (k + 1) = xs.take k ++ [xs[k]] := (List.take_append_getElem hkl).symm
    generalize xs[k] = x at hx htk
    obtain ⟨ad, had, hld⟩ := ((hr.keep hf (by simp)).load elI hx)
    refine ⟨⟨by omega, by omega⟩, ad, had, x.path, x.mode, x.data, by rw [Int.toNat_natCast]; exact hld, fun w11 h11 => ?_⟩
    subst h11
    have hbb : (w6.alloc (.cells (encI x).toArray T_modzip_Item)).heap[w6.heap.size]? = some (.cells (encI x).toArray T_modzip_Item (0, 0)) := alloc_new _ _
    have hfb : Fr (fun _ => False) w6 (w6.alloc (.cells (encI x).toArray T_modzip_Item)) := .alloc _ _ _
    refine ⟨_, boxI_run w6 x, x.data, by rw [cell_blk hbb]; rfl, (fewS_spec x.data 400 _).mono ?_⟩
    rintro e w15 ⟨rfl, hw⟩
    replace hw := hw.symm
    subst hw
    refine ⟨_, rfl, wr_blk hbb (by simp [encI]), fun w17 h17 => ?_⟩
    have hb17 : w17.heap[w6.heap.size]? = some (.cells (encI (cutI x)).toArray T_modzip_Item (0, 0)) := by rw [h17, set_blk hbb]; rfl
    have hf17 : Fr (fun _ => False) w6 w17 := by
      rw [h17]
      exact hfb.trans (Fr.set (· = w6.heap.size) _ _ rfl) fun q hq e => by omega
    refine ⟨_, _, _, boxI_load hb17, fun w21 h21 => ?_⟩
    have hfl : ((xs.take k).map cutI).length ≤ 1000 := by rw [List.length_map, List.length_take]; omega
    obtain ⟨w22, l23, hr22, ho22, hf22, _⟩ := append_oneK elI (ho.keep hf17 (by simp)) (x := cutI x) (by unfold maxLen; omega) (by omega) (by have := hf17.size; have := hf.size; omega) h21
    have e1 : IntKind.i64.wrap ((k : Int) + 1) = ((k + 1 : Nat) : Int) := by rw [wrap_i64 (by omega) (by omega)]; omega
    rw [e1]
    refine ⟨w22, l23, hr22, ⟨k + 1, rfl, by omega, by omega, by rw [htk, List.map_append]; exact ho22, (hf.trans' hf17).trans hf22 fun q hq ⟨y, hy, e⟩ => by have := (ho.blk hy).1; omega⟩, by dsimp only; omega⟩
  · have hge := of_decide_eq_false hge
    have : k = m := by omega
    subst this
    exact ho
  · have hge := of_decide_eq_false hge
    have : k = xs.length := by omega
    unfold shortI
    rw [List.take_of_length_le (by omega : xs.length ≤ m)]
    rw [this, List.take_length] at ho
    exact ho
theorem shortI_facts {xs : List ItE} (m : Nat) : (shortI xs m).length ≤ m ∧ ∀ x ∈ shortI xs m, x.data.size ≤ 400 ∧ ∃ y ∈ xs, x.path = y.path := by
  refine ⟨by unfold shortI; rw [List.length_map, List.length_take]; omega, fun x hx => ?_⟩
  obtain ⟨y, hy, rfl⟩ := List.mem_map.1 hx
  exact ⟨(fewB_size _ _).1, y, List.mem_of_mem_take hy, rfl⟩
theorem front_size (m v : ByteArray) : (frontE m v).size = m.size + v.size + 2 := by
  unfold frontE
  rw [ByteArray.size_append, ByteArray.size_append, ByteArray.size_append]
  show m.size + 1 + v.size + 1 = _
  omega
end Go.Proofs.YtfoeooddnmppnaaGreatDoor

/- modzip.Pack. Conditions: as named. -/
set_option linter.unusedVariables false
namespace Go.Proofs.YtfoeooddnmppnaaGreatDoor
open Go Vc ShaM HexM StabM B64M Go.Proofs

def packE (m v : ByteArray) (ys : List FileE) : Value := if chkE ys = 0 then .tuple #[.string (zipE (ys.map (preF (frontE m v)))), .int .i64 (zchk (ys.map (preF (frontE m v))))] else .tuple #[.string ⟨#[]⟩, .int .i64 (chkE ys)]
theorem pack_spec {w : World} {a : Option Addr} {n c : Nat} {ys : List FileE} (hr : ReadsK encF 2 w a ys) (hn : ys.length = n) (hl : n ≤ 100000) (m v : ByteArray) (hmv : m.size + v.size ≤ 1000000) (hp : ∀ y ∈ ys, y.path.size ≤ 4294967000) (ht : totalF ys ≤ 4611686018427387904) :
    Calls Tryz.prog F_modzip_Pack #[.string m, .string v, .slice a n c] w fun e w' => e = .returned (packE m v ys) ∧ Fr (fun _ => False) w w' := by
  refine vc_modzip_Pack_ok (R := fun u w' => u = packE m v ys ∧ Fr (fun _ => False) w w') ?_ (fun u w' h => ⟨by rw [h.1], h.2⟩)
  have hfs := front_size m v
  refine (check_spec hr hn hl (fun y hy => Nat.le_trans (hp y hy) (by decide)) ht).mono ?_
  rintro e w2 ⟨rfl, hf2⟩
  refine ⟨_, rfl, fun h => ⟨?_, hf2⟩, fun h => ?_⟩
  · unfold packE; rw [if_neg (by simpa using h)]
  have h0 : chkE ys = 0 := by simpa using h
  refine (front_spec m v (by omega) w2).mono ?_
  rintro e w5 ⟨rfl, hw⟩
  replace hw := hw.symm
  subst hw
  refine ⟨_, rfl, (prefixed_spec (hr.keep hf2 (by simp)) hn (by omega) (frontE m v) fun x hx => by have := hp x hx; omega).mono ?_⟩
  rintro e w8 ⟨l9, rfl, ho8, hf8⟩
  have hl9 := ho8.len
  rw [List.length_map] at hl9
  have htm : totalF (ys.map (preF (frontE m v))) = totalF ys := by
    unfold totalF; rw [List.map_map]; rfl
  refine ⟨l9, rfl, (zwrite_spec (ho8.reads fun _ => rfl) ho8.1 (by omega) (fun y hy => ?_) (by rw [htm]; exact ht)).mono ?_⟩
  · obtain ⟨x, hx, rfl⟩ := List.mem_map.1 hy
    have := hp x hx
    unfold preF; rw [ByteArray.size_append]; omega
  rintro e w11 ⟨rfl, hf11⟩
  refine ⟨_, _, rfl, ?_, (hf2.trans' hf8).trans' hf11⟩
  unfold packE; rw [if_pos h0]
theorem packE_pair (m v : ByteArray) (ys : List FileE) : ∃ (s : ByteArray) (z : Int), packE m v ys = .tuple #[.string s, .int .i64 z] := by
  unfold packE; split
  · exact ⟨_, _, rfl⟩
  · exact ⟨_, _, rfl⟩
theorem srt_ge {zs : List FileE} (h : Srt ltP zs) : zs.Pairwise fun x y => ¬ y.path.data.toList < x.path.data.toList := h.imp fun h => of_decide_eq_false h
theorem pre_nodup {front : ByteArray} {ys : List FileE} (h : (ys.map (·.path)).Nodup) : ((ys.map (preF front)).map (·.path)).Nodup := by
  rw [List.map_map]
  have e : ((fun x : FileE => x.path) ∘ preF front) = (fun s : ByteArray => front ++ s) ∘ (fun x : FileE => x.path) := rfl
  rw [e, ← List.map_map]
  refine List.Pairwise.map _ (fun a b hab he => hab ?_) h
  refine bs_ext ?_
  have := congrArg (fun s : ByteArray => s.data.toList) he
  simp only [bs_app] at this
  exact List.append_cancel_left this
end Go.Proofs.YtfoeooddnmppnaaGreatDoor

/- Formulas of 1 Go functions of this seat (written by a program of the author's, vcgen.py), and that each is enough for the call. No condition. -/
set_option linter.unusedVariables false
namespace Go.Proofs.YtfoeooddnmppnaaGreatDoor
open Go Vc Go.Proofs
set_option maxRecDepth 100000
/-- modzip.Unpack -/
def vc_modzip_Unpack (x0 : ByteArray) (x1 : ByteArray) (x2 : ByteArray) (w : World) (R : Value → World → Prop) : Prop :=
  Calls Tryz.prog (9 : Nat) (Array.mk [Value.string x2]) (w) (fun e1 w2 =>
    ∃ l3 : Sl, ∃ n4 : Int, (e1 = Ending.returned (Value.tuple (Array.mk [Value.slice l3.1 l3.2 l3.3, Value.int IntKind.i64 n4])) ∧
     ((((n4 != 0) = true →
        R (Value.tuple (Array.mk [Value.slice none 0 0, Value.int IntKind.i64 n4])) w2)) ∧
      ((n4 != 0) = false →
        ∃ I5 : Int → World → Prop, ∃ I6 : Int → World → Nat, (I5 0 w2 ∧
         ∀ n7 : Int,
         ∀ w8 : World,
         (I5 n7 w8 →
           (((decide (n7 < (↑l3.2 : Int)) = true →
              ((0 ≤ n7 ∧
                n7 < (↑l3.2 : Int)) ∧
               ∃ a9 : Addr, (l3.1 = some a9 ∧
                ∃ s10 : ByteArray, ∃ s11 : ByteArray, (Sem.run Tryz.prog (loadVar 35 (Addr.add a9 (Int.toNat n7 * 2))) w8 = Result.ok (Value.agg (Array.mk [Value.string s10, Value.string s11])) w8 ∧
                 ∀ w12 : World,
                 (w12 = World.alloc w8 (Obj.cells (Array.mk [Value.string (ByteArray.mk (Array.mk [])), Value.string (ByteArray.mk (Array.mk []))]) 35) →
                   ∃ w13 : World, (Sem.run Tryz.prog (storeVar 35 (Addr.mk (Array.size (World.heap w8)) 0 none) (Value.agg (Array.mk [Value.string s10, Value.string s11]))) w12 = Result.ok PUnit.unit w13 ∧
                    ∀ w14 : World,
                    (Drew w13 w14 →
                      ∃ I15 : World → Prop, (I15 w14 ∧
                       ∃ s16 : ByteArray, ((∀ w17 : World,
                        (I15 w17 →
                          World.cell? w17 (Addr.mk (Array.size (World.heap w8)) 0 none) = some (Value.string s16))) ∧
                        Calls Tryz.prog (11 : Nat) (Array.mk [Value.string x0, Value.string x1]) (w14) (fun e18 w19 =>
                          ∃ s20 : ByteArray, (e18 = Ending.returned (Value.string s20) ∧
                           (I15 w19 ∧
                            Calls Tryz.prog (22 : Nat) (Array.mk [Value.string s16, Value.string s20]) (w19) (fun e21 w22 =>
                              ∃ s23 : ByteArray, ∃ b24 : Bool, (e21 = Ending.returned (Value.tuple (Array.mk [Value.string s23, Value.bool b24])) ∧
                               (I15 w22 ∧
                                ((((!b24) = true →
                                   R (Value.tuple (Array.mk [Value.slice none 0 0, Value.int IntKind.i64 4])) w22)) ∧
                                 ((!b24) = false →
                                   ((0 ≤ n7 ∧
                                     n7 < (↑l3.2 : Int)) ∧
                                    ∃ a25 : Addr, (l3.1 = some a25 ∧
                                     (Wr w22 (Addr.add a25 (Int.toNat n7 * 2)) ∧
                                      ∀ w26 : World,
                                      (w26 = World.setCell w22 (Addr.add a25 (Int.toNat n7 * 2)) (Value.string s23) →
                                        (I5 (IntKind.wrap IntKind.i64 (n7 + 1)) w26 ∧
                                         I6 (IntKind.wrap IntKind.i64 (n7 + 1)) w26 < I6 n7 w8))))))))))))))))))))))) ∧
            (decide (n7 < (↑l3.2 : Int)) = false →
              Calls Tryz.prog (34 : Nat) (Array.mk [Value.slice l3.1 l3.2 l3.3]) (w8) (fun e27 w28 =>
                ∃ n29 : Int, (e27 = Ending.returned (Value.int IntKind.i64 n29) ∧
                 ((((n29 != 0) = true →
                    R (Value.tuple (Array.mk [Value.slice none 0 0, Value.int IntKind.i64 n29])) w28)) ∧
                  ((n29 != 0) = false →
                    R (Value.tuple (Array.mk [Value.slice l3.1 l3.2 l3.3, Value.int IntKind.i64 0])) w28))))))))))))
theorem vc_modzip_Unpack_ok {x0 : ByteArray} {x1 : ByteArray} {x2 : ByteArray} {w : World} {R : Value → World → Prop} {R' : Ending → World → Prop} (h : vc_modzip_Unpack x0 x1 x2 w R) (hR : ∀ v w', R v w' → R' (.returned v) w') :
    Calls Tryz.prog 8 #[.string x0, .string x1, .string x2] w R' :=
  calls_of_body (vs := [(.string x0, false), (.string x1, false), (.string x2, false)]) (ty := ty) (ann := ⟨[], [(5, [(25, .int .i64)])], [(7, .held [(0, true), (1, true), (2, true), (3, true), (4, false), (5, false), (6, true), (7, true), (8, true), (9, true), (10, true)])], []⟩) (c := Tryz.f8.body.getD .skip) (by kernel_rfl) Tryz.func8 (by kernel_rfl) (by kernel_rfl) (Eq.mp (by kernel_rfl) h) hR
end Go.Proofs.YtfoeooddnmppnaaGreatDoor

/- modzip.Unpack of an archive that is right. Conditions: as named. -/
set_option linter.unusedVariables false
namespace Go.Proofs.YtfoeooddnmppnaaGreatDoor
open Go Vc Go.Proofs

def unF (front : ByteArray) (x : FileE) : FileE := ⟨cutPre x.path front, x.data⟩
/-- What Unpack hands back. -/
def UnpR (zs : List FileE) (front : ByteArray) (w : World) (v : Value) (w' : World) : Prop := Fr (fun _ => False) w w' ∧
  (((∃ z ∈ zs, begB z.path front = false) ∧ v = .tuple #[.slice none 0 0, .int .i64 4]) ∨ ((∀ z ∈ zs, begB z.path front = true) ∧
    ((chkE (zs.map (unF front)) ≠ 0 ∧ v = .tuple #[.slice none 0 0, .int .i64 (chkE (zs.map (unF front)))]) ∨ (chkE (zs.map (unF front)) = 0 ∧ ∃ l : Sl, v = .tuple #[.slice l.a l.len l.cap, .int .i64 0] ∧ OwnK encF 2 w' w.heap.size T_api_File l (zs.map (unF front))))))
set_option maxHeartbeats 1600000 in
theorem munpack_spec {zs : List FileE} (h0 : zchk zs = 0) (m v : ByteArray) (hmv : m.size + v.size ≤ 1000000) (w : World) :
    Calls Tryz.prog F_modzip_Unpack #[.string m, .string v, .string ⟨(zipL zs).toArray⟩] w fun e w' => ∃ u, e = .returned u ∧ UnpR zs (frontE m v) w u w' := by
  refine vc_modzip_Unpack_ok (R := UnpR zs (frontE m v) w) ?_ (fun v w' h => ⟨v, rfl, h⟩)
  obtain ⟨hn600, htot, hcl⟩ := zchk_ok h0
  have hp2 : ∀ z ∈ zs, z.path.size ≤ 200 := fun z hz => by
    have := hcl z hz
    unfold cleanB at this
    simp only [Bool.and_eq_true, decide_eq_true_eq] at this
    omega
  have hle := zipL_le h0
  refine (zread_spec (good_sto h0 (by omega)) w).mono ?_
  rintro e w2 ⟨l, rfl, ho, f2⟩
  rw [fil_sto] at ho
  have hfr : ∀ w', Calls Tryz.prog F_modzip_Front #[.string m, .string v] w' fun e w'' => e = .returned (.string (frontE m v)) ∧ w'' = w' := fun w' => front_spec m v (by omega) w'
  generalize frontE m v = front at *
  have hll := ho.len
  refine ⟨l, 0, rfl, fun h => absurd h (by decide), fun _ => ⟨fun i w' => ∃ k : Nat, i = k ∧ k ≤ zs.length ∧ (∀ z ∈ zs.take k, begB z.path front = true) ∧ OwnK encF 2 w' w.heap.size T_api_File l ((zs.take k).map (unF front) ++ zs.drop k) ∧ Fr (fun _ => False) w w', fun i _ => zs.length - i.toNat, ⟨0, rfl, Nat.zero_le _, fun z hz => by simp at hz, by simpa using ho, f2⟩, ?_⟩⟩
  have hbase := f2.size
  clear ho
  rintro i w8 ⟨k, rfl, hk, hall, ho, hf⟩
  have e1 : IntKind.i64.wrap ((k : Int) + 1) = ((k + 1 : Nat) : Int) := by rw [wrap_i64 (by omega) (by omega)]; omega
  refine ⟨fun hlt => ?_, fun hge => ?_⟩
  · have hlt := of_decide_eq_true hlt
    have hkl : k < zs.length := by omega
    have hx : zs[k]? = some zs[k] := List.getElem?_eq_getElem hkl
    have hdr : zs.drop k = zs[k] :: zs.drop (k + 1) := List.drop_eq_getElem_cons hkl
    have htk : zs.take (k + 1) = zs.take k ++ [zs[k]] := (List.take_append_getElem hkl).symm
    generalize zs[k] = x at hx hdr htk
    have hxm := List.mem_of_getElem? hx
    have htl : ((zs.take k).map (unF front)).length = k := by rw [List.length_map, List.length_take]; omega
    have hxk : ((zs.take k).map (unF front) ++ zs.drop k)[k]? = some x := by rw [List.getElem?_append_right (by omega), htl, Nat.sub_self, hdr]; rfl
    obtain ⟨ad, had, hld⟩ := (ho.reads elF.len).load elF hxk
    refine ⟨⟨by omega, by omega⟩, ad, had, x.path, x.data, by rw [Int.toNat_natCast]; exact hld, fun w12 h12 => ?_⟩
    subst h12
    obtain ⟨w13, hw13⟩ : ∃ w13, w8.alloc (.cells (encF x).toArray T_api_File) = w13 := ⟨_, rfl⟩
    have hfb : Fr (fun _ => False) w8 w13 := by rw [← hw13]; exact .alloc _ _ _
    refine ⟨w13, by rw [← hw13]; exact boxF_run w8 x, fun w14 d14 => ?_⟩
    have f14 : Fr (fun _ => False) w8 w14 := hfb.trans' (.drew _ d14)
    refine ⟨fun w' => w' = w14, rfl, x.path, fun w' e => by rw [e, d14.cell, ← hw13]; exact boxF_cell w8 x (.refl (fun _ => False) _) (by simp) (j := 0) rfl, (hfr w14).mono ?_⟩
    rintro e w19 ⟨rfl, hw⟩
    subst hw
    refine ⟨_, rfl, rfl, (cutPrefix_spec x.path front w19).mono ?_⟩
    rintro e w22 ⟨rfl, hw⟩
    subst hw
    have hf22 := hf.trans' f14
    have ho22 := ho.keep f14 (by simp)
    refine ⟨_, _, rfl, rfl, fun h => ⟨hf22, .inl ⟨⟨x, hxm, by simpa using h⟩, rfl⟩⟩, fun h => ?_⟩
    have h : begB x.path front = true := by simpa using h
    obtain ⟨ad', had', hwr, ho', hf'⟩ := OwnK.setField (enc := encF) (k := 2) (fun _ => rfl) ho22 (i := k) (j := 0) (x := x) (y := unF front x) (v := .string (cutPre x.path front)) hxk (show 0 < 2 by decide) rfl
    rw [had] at had'; cases had'
    have hz : ∀ q : Addr, q.add 0 = q := fun q => by cases q; rfl
    rw [hz] at hwr ho' hf'
    refine ⟨⟨by omega, by omega⟩, ad, had, by rw [Int.toNat_natCast]; exact hwr, fun w26 h26 => ?_⟩
    rw [Int.toNat_natCast] at h26
    subst h26
    rw [e1]
    refine ⟨⟨k + 1, rfl, by omega, fun z hz => ?_, ?_, hf22.trans hf' fun q hq ⟨y, hy, e⟩ => by have := (ho.blk hy).1; omega⟩, by dsimp only; omega⟩
    · rw [htk] at hz
      rcases List.mem_append.1 hz with hz | hz
      · exact hall z hz
      · rw [List.mem_singleton] at hz; subst hz; exact h
    · have hset : ((zs.take k).map (unF front) ++ zs.drop k).set k (unF front x) = (zs.take (k + 1)).map (unF front) ++ zs.drop (k + 1) := by
        rw [List.set_append_right _ _ (by omega), htl, Nat.sub_self, hdr, List.set_cons_zero, htk, List.map_append, List.append_assoc]
        rfl
      rw [← hset]; exact ho'
  · have hge := of_decide_eq_false hge
    have hk' : k = zs.length := by omega
    rw [hk', List.take_length] at hall
    rw [hk', List.take_length, List.drop_length, List.append_nil] at ho
    have hct : totalF (zs.map (unF front)) = totalF zs := by unfold totalF; rw [List.map_map]; rfl
    refine (check_spec (c := l.cap) (ho.reads elF.len) ho.1 (by rw [← ho.1, List.length_map]; omega) (fun y hy => ?_) (by omega)).mono ?_
    · obtain ⟨z, hz, rfl⟩ := List.mem_map.1 hy
      have := cutPre_size z.path front
      have := hp2 z hz
      show (cutPre z.path front).size ≤ _
      omega
    rintro e w28 ⟨rfl, f28⟩
    have hf28 := hf.trans' f28
    refine ⟨_, rfl, fun h => ⟨hf28, .inr ⟨hall, .inl ⟨by simpa using h, rfl⟩⟩⟩, fun h => ⟨hf28, .inr ⟨hall, .inr ⟨by simpa using h, l, rfl, ho.keep f28 (by simp)⟩⟩⟩⟩
end Go.Proofs.YtfoeooddnmppnaaGreatDoor

/- Formulas of 1 Go functions of this seat (written by a program of the author's, vcgen.py), and that each is enough for the call. No condition. -/
set_option linter.unusedVariables false
namespace Go.Proofs.YtfoeooddnmppnaaGreatDoor
open Go Vc Go.Proofs
set_option maxRecDepth 100000
/-- cartularyref23.Same -/
def vc_cartularyref23_Same (x0a : Option Addr) (x0n : Nat) (x0c : Nat) (x1a : Option Addr) (x1n : Nat) (x1c : Nat) (w : World) (R : Value → World → Prop) : Prop :=
  (((((↑x0n : Int) != (↑x1n : Int)) = true →
     R (Value.bool false) w)) ∧
   (((↑x0n : Int) != (↑x1n : Int)) = false →
     ∃ I1 : Int → World → Prop, ∃ I2 : Int → World → Nat, (I1 0 w ∧
      ∀ n3 : Int,
      ∀ w4 : World,
      (I1 n3 w4 →
        (((decide (n3 < (↑x0n : Int)) = true →
           ∀ w5 : World,
           (Drew w4 w5 →
             ∃ I6 : World → Prop, (I6 w5 ∧
              ((0 ≤ n3 ∧
                n3 < (↑x0n : Int)) ∧
               ∃ a7 : Addr, (x0a = some a7 ∧
                ((0 ≤ n3 ∧
                  n3 < (↑x1n : Int)) ∧
                 ∃ a8 : Addr, (x1a = some a8 ∧
                  ∃ s9 : ByteArray, ∃ s10 : ByteArray, ((∀ w11 : World,
                   (I6 w11 →
                     Sem.run Tryz.prog (loadVar 35 (Addr.add a7 (Int.toNat n3 * 2))) w11 = Result.ok (Value.agg (Array.mk [Value.string s9, Value.string s10])) w11)) ∧
                   ∃ s12 : ByteArray, ∃ s13 : ByteArray, ((∀ w14 : World,
                    (I6 w14 →
                      Sem.run Tryz.prog (loadVar 35 (Addr.add a8 (Int.toNat n3 * 2))) w14 = Result.ok (Value.agg (Array.mk [Value.string s12, Value.string s13])) w14)) ∧
                    ((((!(ByteArray.toList s9 == ByteArray.toList s12 && ByteArray.toList s10 == ByteArray.toList s13)) = true →
                       R (Value.bool false) w5)) ∧
                     ((!(ByteArray.toList s9 == ByteArray.toList s12 && ByteArray.toList s10 == ByteArray.toList s13)) = false →
                       (I1 (IntKind.wrap IntKind.i64 (n3 + 1)) w5 ∧
                        I2 (IntKind.wrap IntKind.i64 (n3 + 1)) w5 < I2 n3 w4))))))))))))) ∧
         (decide (n3 < (↑x0n : Int)) = false →
           R (Value.bool true) w4))))))
theorem vc_cartularyref23_Same_ok {x0a : Option Addr} {x0n : Nat} {x0c : Nat} {x1a : Option Addr} {x1n : Nat} {x1c : Nat} {w : World} {R : Value → World → Prop} {R' : Ending → World → Prop} (h : vc_cartularyref23_Same x0a x0n x0c x1a x1n x1c w R) (hR : ∀ v w', R v w' → R' (.returned v) w') :
    Calls Tryz.prog 10 #[.slice x0a x0n x0c, .slice x1a x1n x1c] w R' :=
  calls_of_body (vs := [(.slice x0a x0n x0c, false), (.slice x1a x1n x1c, false)]) (ty := ty) (ann := ⟨[], [(4, [(13, .int .i64)])], [(6, .held [(0, true), (1, true), (2, true), (4, true), (5, true), (6, true), (3, true), (7, true), (8, true)])], []⟩) (c := Tryz.f10.body.getD .skip) (by kernel_rfl) Tryz.func10 (by kernel_rfl) (by kernel_rfl) (Eq.mp (by kernel_rfl) h) hR
end Go.Proofs.YtfoeooddnmppnaaGreatDoor

/- The reference's Same of two lists of files. Condition: at most a million. -/
set_option linter.unusedVariables false
namespace Go.Proofs.YtfoeooddnmppnaaGreatDoor
open Go Vc Go.Proofs

theorem rsame_spec {w : World} {a b : Option Addr} {n m c d : Nat} {xs ys : List FileE} (hx : ReadsK encF 2 w a xs) (hy : ReadsK encF 2 w b ys) (hn : xs.length = n) (hm : ys.length = m) (hl : n ≤ 1000000) : Calls Tryz.prog F_cartularyref23_Same #[.slice a n c, .slice b m d] w fun e w' => (∃ r : Bool, e = .returned (.bool r) ∧ (r = true ↔ xs = ys)) ∧ Drew w w' := by
  refine vc_cartularyref23_Same_ok (R := fun v w' => (∃ r : Bool, v = .bool r ∧ (r = true ↔ xs = ys)) ∧ Drew w w') ?_ (fun v w' ⟨⟨r, h1, h2⟩, h3⟩ => ⟨⟨r, by rw [h1], h2⟩, h3⟩)
  refine ⟨fun h => ⟨⟨false, rfl, fun h => (by cases h), fun e => ?_⟩, .refl _⟩, fun h => ?_⟩
  · rw [← hn, ← hm, e] at h; simp at h
  have hnm : n = m := by
    have : (n : Int) = m := by simpa using h
    omega
  refine ⟨fun i w' => ∃ k : Nat, i = k ∧ k ≤ n ∧ xs.take k = ys.take k ∧ Drew w w', fun i _ => n - i.toNat, ⟨0, rfl, Nat.zero_le _, rfl, .refl _⟩, ?_⟩
  rintro i w4 ⟨k, rfl, hk, heq, d4⟩
  have e1 : IntKind.i64.wrap ((k : Int) + 1) = ((k + 1 : Nat) : Int) := by rw [wrap_i64 (by omega) (by omega)]; omega
  rw [e1]
  refine ⟨fun hlt w5 d5 => ?_, fun hge => ⟨⟨true, rfl, fun _ => ?_, fun _ => rfl⟩, d4⟩⟩
  · have hlt := of_decide_eq_true hlt
    have h1 : xs[k]? = some xs[k] := List.getElem?_eq_getElem (by omega)
    have h2 : ys[k]? = some ys[k] := List.getElem?_eq_getElem (by omega)
    generalize xs[k] = x at h1
    generalize ys[k] = y at h2
    have fd : Fr (fun _ => False) w w5 := .drew _ (d4.trans d5)
    obtain ⟨ad, had, hld⟩ := (hx.keep fd (by simp)).load elF h1
    obtain ⟨bd, hbd, hld'⟩ := (hy.keep fd (by simp)).load elF h2
    refine ⟨fun w' => w' = w5, rfl, ⟨by omega, by omega⟩, ad, had, ⟨by omega, by omega⟩, bd, hbd, x.path, x.data, fun w' e => by rw [e, Int.toNat_natCast]; exact hld, y.path, y.data, fun w' e => by rw [e, Int.toNat_natCast]; exact hld', fun h => ⟨⟨false, rfl, fun h => (by cases h), fun e => ?_⟩, d4.trans d5⟩, fun h => ⟨⟨k + 1, rfl, by omega, ?_, d4.trans d5⟩, by dsimp only; omega⟩⟩
    · rw [e, h2] at h1
      cases h1
      rw [bs_eq, bs_eq] at h; simp at h
    · rw [bs_eq, bs_eq] at h
      have h : x.path = y.path ∧ x.data = y.data := by simpa using h
      have hxy : x = y := by cases x; cases y; simp only at h; rw [h.1, h.2]
      rw [List.take_add_one, List.take_add_one, heq, h1, h2, hxy]
  · have hge := of_decide_eq_false hge
    have hk' : k = n := by omega
    rw [hk', List.take_of_length_le (by omega), List.take_of_length_le (by omega)] at heq
    exact heq
end Go.Proofs.YtfoeooddnmppnaaGreatDoor

/- What is selected stands in no other module's folder and in no folder vendor, in plain. No condition. -/
set_option linter.unusedVariables false
namespace Go.Proofs.YtfoeooddnmppnaaGreatDoor
open Go Vc Go.Proofs

theorem sel_from {xs : List ItE} {dir : ByteArray} {f : FileE} (h : f ∈ selE xs dir) : ∃ x ∈ xs, x.data = f.data ∧ (x.path = frontOf dir ++ f.path ∨ f.path = sLic ∧ x.path = sLic) := by
  rcases sel_mem h with h | h
  · obtain ⟨x, hx, h1, rfl⟩ := take_mem h
    refine ⟨x, hx, rfl, .inl ?_⟩
    have b1 : begB x.path (frontOf dir) = true := by unfold isTake okI at h1; simp only [Bool.and_eq_true] at h1; exact h1.1.1.1
    exact beg_cutPre b1
  · obtain ⟨x, hx, h1, rfl⟩ := lic_mem h
    unfold isLic at h1
    simp only [Bool.and_eq_true, decide_eq_true_eq] at h1
    exact ⟨x, hx, rfl, .inr ⟨rfl, h1.1⟩⟩
theorem beg_folder (s : ByteArray) (k : Nat) : begB s (s.extract 0 k) = true := by
  unfold begB
  rw [bs_head]
  exact decide_eq_true (List.take_prefix _ _)
theorem hasL_mid (t a b : List UInt8) : hasL t (a ++ (t ++ b)) = true := hasL_front t _ (hasL_pre (List.prefix_append t b)) a
theorem folder_last {s : ByteArray} {k : Nat} (hk : k < s.size) (hb : byt s k = 47) : (s.extract 0 (k + 1)).data.toList = s.data.toList.take k ++ [47] := by
  rw [bs_head, bs_take hk, hb]; rfl
theorem sel_folder {xs : List ItE} {dir : ByteArray} {f : FileE} (h : f ∈ selE xs dir) {k : Nat} (hk : k < f.path.size) (hb : byt f.path k = 47) :
    f.path.extract 0 (k + 1) ≠ sVen ∧ (8 < k + 1 → (f.path.extract 0 (k + 1)).extract (k + 1 - 8) (k + 1) ≠ sVen2) ∧ ∀ x ∈ xs, plainI x = true → x.path ≠ (frontOf dir ++ f.path.extract 0 (k + 1)) ++ sMod := by
  rcases sel_mem h with h | h
  · obtain ⟨x, hx, h1, rfl⟩ := take_mem h
    unfold isTake at h1
    simp only [Bool.and_eq_true, Bool.not_eq_true'] at h1
    obtain ⟨⟨h1, hi⟩, hv⟩ := h1
    generalize cutPre x.path (frontOf dir) = p at *
    unfold vend at hv
    rw [Bool.or_eq_false_iff] at hv
    have hsz : (p.extract 0 (k + 1)).size = k + 1 := by rw [ByteArray.size_extract]; dsimp only at hk; omega
    refine ⟨fun e => ?_, fun h8 e => ?_, fun y hy hp e => ?_⟩
    · have := beg_folder p (k + 1)
      dsimp only at e
      rw [e, hv.1] at this
      cases this
    · have : hasL sVen2.data.toList p.data.toList = true := by
        have e2 : p.data.toList = p.data.toList.take (k + 1 - 8) ++ (sVen2.data.toList ++ p.data.toList.drop (k + 1)) := by
          dsimp only at e
          rw [← e, bs_extract, bs_head, show k + 1 - (k + 1 - 8) = 8 by omega, List.drop_take, show k + 1 - (k + 1 - 8) = 8 by omega, List.take_take, Nat.min_self, ← List.append_assoc, ← List.take_add, show k + 1 - 8 + 8 = k + 1 by omega, List.take_append_drop]
        rw [e2]
        exact hasL_mid _ _ _
      rw [hv.2] at this
      cases this
    · dsimp only at e hk hb
      have hfold := folder_last hk hb
      generalize hF : p.extract 0 (k + 1) = F at *
      have hbeg : begB y.path (frontOf dir) = true := by
        rw [e]
        unfold begB
        rw [bs_app, bs_app, List.append_assoc]
        exact decide_eq_true (List.prefix_append _ _)
      have hcut : cutPre y.path (frontOf dir) = F ++ sMod := by
        have := beg_cutPre hbeg
        rw [e] at this
        refine bs_ext ?_
        have h2 := congrArg (fun s : ByteArray => s.data.toList) this
        simp only [bs_app, List.append_assoc] at h2
        rw [e, bs_app]
        exact (List.append_cancel_left h2).symm
      have hm : F ∈ xs.flatMap (nestE (frontOf dir)) := by
        refine List.mem_flatMap.2 ⟨y, hy, ?_⟩
        have hnest : isNest (frontOf dir) y = true := by
          unfold isNest okI
          rw [hbeg, hp, hcut, bs_app, hfold]
          simp only [Bool.and_self, Bool.true_and]
          unfold sufL
          exact decide_eq_true ⟨p.data.toList.take k, by rw [List.append_assoc]; rfl⟩
        unfold nestE
        rw [if_pos hnest, hcut]
        have : cutSuf (F ++ sMod) sMod = F := by
          unfold cutSuf
          rw [if_pos (by unfold sufL; rw [bs_app]; exact decide_eq_true (List.suffix_append _ _))]
          refine bs_ext ?_
          rw [bs_head, bs_app, show (F ++ sMod).size - sMod.size = F.data.toList.length by rw [ByteArray.size_append, bs_len]; omega, List.take_left]
        rw [this]
        exact List.mem_singleton.2 rfl
      have : inB (xs.flatMap (nestE (frontOf dir))) p = true := List.any_eq_true.2 ⟨F, hm, by rw [← hF]; exact beg_folder p (k + 1)⟩
      rw [hi] at this
      cases this
  · obtain ⟨x, hx, h1, rfl⟩ := lic_mem h
    dsimp only at hk hb
    have key : ∀ j : Fin 7, byt sLic j ≠ 47 := by decide
    exact absurd hb (key ⟨k, hk⟩)
end Go.Proofs.YtfoeooddnmppnaaGreatDoor

/- Formulas of 1 Go functions of this seat (written by a program of the author's, vcgen.py), and that each is enough for the call. No condition. -/
set_option linter.unusedVariables false
namespace Go.Proofs.YtfoeooddnmppnaaGreatDoor
open Go Vc Go.Proofs
set_option maxRecDepth 100000
/-- cartularytop.CartularyArchives -/
def vc_cartularytop_CartularyArchives (x0a : Option Addr) (x0n : Nat) (x0c : Nat) (x1 : ByteArray) (x2 : ByteArray) (w : World) (R : Value → World → Prop) : Prop :=
  Calls Tryz.prog (4 : Nat) (Array.mk [Value.string (ByteArray.mk (Array.mk [(109 : UInt8)])), Value.string (ByteArray.mk (Array.mk [(118 : UInt8)])), Value.slice none (0 : Nat) (0 : Nat)]) (w) (fun e1 w2 =>
    ∃ s3 : ByteArray, (e1 = Ending.returned (Value.string s3) ∧
     ((((!ByteArray.toList s3 == ByteArray.toList (ByteArray.mk (Array.mk [104, 49, 58, 52, 55, 68, 69, 81, 112, 106, 56, 72, 66, 83, 97, 43, 47, 84, 73, 109, 87, 43, 53, 74, 67, 101, 117, 81, 101, 82, 107, 109, 53, 78, 77, 112, 74, 87, 90, 71, 51, 104, 83, 117, 70, 85, 61]))) = true →
        R (Value.bool false) w2)) ∧
      ((!ByteArray.toList s3 == ByteArray.toList (ByteArray.mk (Array.mk [104, 49, 58, 52, 55, 68, 69, 81, 112, 106, 56, 72, 66, 83, 97, 43, 47, 84, 73, 109, 87, 43, 53, 74, 67, 101, 117, 81, 101, 82, 107, 109, 53, 78, 77, 112, 74, 87, 90, 71, 51, 104, 83, 117, 70, 85, 61]))) = false →
        ∃ I4 : ByteArray → World → Prop, ((((decide ((↑(ByteArray.size x2) : Int) > 60) = true →
            (((0 : Int) ≤ (60 : Int) ∧
              60 ≤ (↑(ByteArray.size x2) : Int)) ∧
             I4 (ByteArray.extract x2 0 (Int.toNat 60)) w2))) ∧
          (decide ((↑(ByteArray.size x2) : Int) > 60) = false →
            I4 x2 w2)) ∧
         ∀ s5 : ByteArray,
         ∀ w6 : World,
         (I4 s5 w6 →
           Calls Tryz.prog (6 : Nat) (Array.mk [Value.slice x0a x0n x0c, Value.int IntKind.i64 30]) (w6) (fun e7 w8 =>
             ∃ l9 : Sl, (e7 = Ending.returned (Value.slice l9.1 l9.2 l9.3) ∧
              Calls Tryz.prog (5 : Nat) (Array.mk [Value.slice l9.1 l9.2 l9.3, Value.string x1]) (w8) (fun e10 w11 =>
                ∃ l12 : Sl, ∃ n13 : Int, (e10 = Ending.returned (Value.tuple (Array.mk [Value.slice l12.1 l12.2 l12.3, Value.int IntKind.i64 n13])) ∧
                 ((((n13 != 0) = true →
                    R (Value.bool ((↑l12.2 : Int) == 0)) w11)) ∧
                  ((n13 != 0) = false →
                    Calls Tryz.prog (7 : Nat) (Array.mk [Value.string (ByteArray.mk (Array.mk [101, 120, 97, 109, 112, 108, 101, 46, 99, 111, 109, 47, 109])), Value.string s5, Value.slice l12.1 l12.2 l12.3]) (w11) (fun e14 w15 =>
                      ∃ s16 : ByteArray, ∃ n17 : Int, (e14 = Ending.returned (Value.tuple (Array.mk [Value.string s16, Value.int IntKind.i64 n17])) ∧
                       ((((n17 != 0) = true →
                          R (Value.bool (ByteArray.toList s16 == ByteArray.toList (ByteArray.mk (Array.mk [])))) w15)) ∧
                        ((n17 != 0) = false →
                          Calls Tryz.prog (8 : Nat) (Array.mk [Value.string (ByteArray.mk (Array.mk [101, 120, 97, 109, 112, 108, 101, 46, 99, 111, 109, 47, 109])), Value.string s5, Value.string s16]) (w15) (fun e18 w19 =>
                            ∃ l20 : Sl, ∃ n21 : Int, (e18 = Ending.returned (Value.tuple (Array.mk [Value.slice l20.1 l20.2 l20.3, Value.int IntKind.i64 n21])) ∧
                             Calls Tryz.prog (9 : Nat) (Array.mk [Value.string s16]) (w19) (fun e22 w23 =>
                               ∃ l24 : Sl, ∃ n25 : Int, (e22 = Ending.returned (Value.tuple (Array.mk [Value.slice l24.1 l24.2 l24.3, Value.int IntKind.i64 n25])) ∧
                                Calls Tryz.prog (7 : Nat) (Array.mk [Value.string (ByteArray.mk (Array.mk [101, 120, 97, 109, 112, 108, 101, 46, 99, 111, 109, 47, 109])), Value.string s5, Value.slice l20.1 l20.2 l20.3]) (w23) (fun e26 w27 =>
                                  ∃ s28 : ByteArray, ∃ n29 : Int, (e26 = Ending.returned (Value.tuple (Array.mk [Value.string s28, Value.int IntKind.i64 n29])) ∧
                                   ((((n21 != 0) = true →
                                      R (Value.bool false) w27)) ∧
                                    ((n21 != 0) = false →
                                      ((((n25 != 0) = true →
                                         R (Value.bool false) w27)) ∧
                                       ((n25 != 0) = false →
                                         ((((n29 != 0) = true →
                                            R (Value.bool false) w27)) ∧
                                          ((n29 != 0) = false →
                                            Calls Tryz.prog (10 : Nat) (Array.mk [Value.slice l12.1 l12.2 l12.3, Value.slice l20.1 l20.2 l20.3]) (w27) (fun e30 w31 =>
                                              ∃ b32 : Bool, (e30 = Ending.returned (Value.bool b32) ∧
                                               ((((!b32) = true →
                                                  R (Value.bool false) w31)) ∧
                                                ((!b32) = false →
                                                  ((((!ByteArray.toList s28 == ByteArray.toList s16) = true →
                                                     R (Value.bool false) w31)) ∧
                                                   ((!ByteArray.toList s28 == ByteArray.toList s16) = false →
                                                     (((((↑l24.2 : Int) != (↑l12.2 : Int)) = true →
                                                        R (Value.bool false) w31)) ∧
                                                      (((↑l24.2 : Int) != (↑l12.2 : Int)) = false →
                                                        Calls Tryz.prog (4 : Nat) (Array.mk [Value.string (ByteArray.mk (Array.mk [101, 120, 97, 109, 112, 108, 101, 46, 99, 111, 109, 47, 109])), Value.string s5, Value.slice l12.1 l12.2 l12.3]) (w31) (fun e33 w34 =>
                                                          ∃ s35 : ByteArray, (e33 = Ending.returned (Value.string s35) ∧
                                                           Calls Tryz.prog (4 : Nat) (Array.mk [Value.string (ByteArray.mk (Array.mk [101, 120, 97, 109, 112, 108, 101, 46, 99, 111, 109, 47, 109])), Value.string s5, Value.slice l20.1 l20.2 l20.3]) (w34) (fun e36 w37 =>
                                                             ∃ s38 : ByteArray, (e36 = Ending.returned (Value.string s38) ∧
                                                              ((((!ByteArray.toList s35 == ByteArray.toList s38) = true →
                                                                 R (Value.bool false) w37)) ∧
                                                               ((!ByteArray.toList s35 == ByteArray.toList s38) = false →
                                                                 ∃ I39 : Int → World → Prop, ∃ I40 : Int → World → Nat, (I39 0 w37 ∧
                                                                  ∀ n41 : Int,
                                                                  ∀ w42 : World,
                                                                  (I39 n41 w42 →
                                                                    (((decide (n41 < (↑l24.2 : Int)) = true →
                                                                       ((0 ≤ n41 ∧
                                                                         n41 < (↑l24.2 : Int)) ∧
                                                                        ∃ a43 : Addr, (l24.1 = some a43 ∧
                                                                         ∃ s44 : ByteArray, ∃ s45 : ByteArray, (Sem.run Tryz.prog (loadVar 35 (Addr.add a43 (Int.toNat n41 * 2))) w42 = Result.ok (Value.agg (Array.mk [Value.string s44, Value.string s45])) w42 ∧
                                                                          ∀ w46 : World,
                                                                          (w46 = World.alloc w42 (Obj.cells (Array.mk [Value.string (ByteArray.mk (Array.mk [])), Value.string (ByteArray.mk (Array.mk []))]) 35) →
                                                                            ∃ w47 : World, (Sem.run Tryz.prog (storeVar 35 (Addr.mk (Array.size (World.heap w42)) 0 none) (Value.agg (Array.mk [Value.string s44, Value.string s45]))) w46 = Result.ok PUnit.unit w47 ∧
                                                                             ∀ w48 : World,
                                                                             (Drew w47 w48 →
                                                                               ∃ I49 : World → Prop, (I49 w48 ∧
                                                                                ∃ s50 : ByteArray, ((∀ w51 : World,
                                                                                 (I49 w51 →
                                                                                   World.cell? w51 (Addr.mk (Array.size (World.heap w42)) 0 none) = some (Value.string s50))) ∧
                                                                                 ((0 ≤ n41 ∧
                                                                                   n41 < (↑l12.2 : Int)) ∧
                                                                                  ∃ a52 : Addr, (l12.1 = some a52 ∧
                                                                                   ∃ s53 : ByteArray, ((∀ w54 : World,
                                                                                    (I49 w54 →
                                                                                      World.cell? w54 (Addr.add a52 (Int.toNat n41 * 2)) = some (Value.string s53))) ∧
                                                                                    Calls Tryz.prog (11 : Nat) (Array.mk [Value.string (ByteArray.mk (Array.mk [101, 120, 97, 109, 112, 108, 101, 46, 99, 111, 109, 47, 109])), Value.string s5]) (w48) (fun e55 w56 =>
                                                                                      ∃ s57 : ByteArray, (e55 = Ending.returned (Value.string s57) ∧
                                                                                       (I49 w56 ∧
                                                                                        (ByteArray.size s57 + ByteArray.size s53 ≤ 9223372036854775807 ∧
                                                                                         ((((!ByteArray.toList s50 == ByteArray.toList (s57 ++ s53)) = true →
                                                                                            R (Value.bool false) w56)) ∧
                                                                                          ((!ByteArray.toList s50 == ByteArray.toList (s57 ++ s53)) = false →
                                                                                            (((decide (n41 > 0) = true →
                                                                                               ((0 ≤ IntKind.wrap IntKind.i64 (n41 - 1) ∧
                                                                                                 IntKind.wrap IntKind.i64 (n41 - 1) < (↑l24.2 : Int)) ∧
                                                                                                ∃ a58 : Addr, (l24.1 = some a58 ∧
                                                                                                 ∃ s59 : ByteArray, ((∀ w60 : World,
                                                                                                  (I49 w60 →
                                                                                                    World.cell? w60 (Addr.add a58 (Int.toNat (IntKind.wrap IntKind.i64 (n41 - 1)) * 2)) = some (Value.string s59))) ∧
                                                                                                  ∃ s61 : ByteArray, ((∀ w62 : World,
                                                                                                   (I49 w62 →
                                                                                                     World.cell? w62 (Addr.mk (Array.size (World.heap w42)) 0 none) = some (Value.string s61))) ∧
                                                                                                   ((((!Op.bytesLess (ByteArray.toList s59) (ByteArray.toList s61)) = true →
                                                                                                      R (Value.bool false) w56)) ∧
                                                                                                    ((!Op.bytesLess (ByteArray.toList s59) (ByteArray.toList s61)) = false →
                                                                                                      (I39 (IntKind.wrap IntKind.i64 (n41 + 1)) w56 ∧
                                                                                                       I40 (IntKind.wrap IntKind.i64 (n41 + 1)) w56 < I40 n41 w42))))))))) ∧
                                                                                             (decide (n41 > 0) = false →
                                                                                               (I39 (IntKind.wrap IntKind.i64 (n41 + 1)) w56 ∧
                                                                                                I40 (IntKind.wrap IntKind.i64 (n41 + 1)) w56 < I40 n41 w42)))))))))))))))))))))) ∧
                                                                     (decide (n41 < (↑l24.2 : Int)) = false →
                                                                       Calls Tryz.prog (8 : Nat) (Array.mk [Value.string (ByteArray.mk (Array.mk [101, 120, 97, 109, 112, 108, 101, 46, 99, 111, 109, 47, 110])), Value.string s5, Value.string s16]) (w42) (fun e63 w64 =>
                                                                         ∃ l65 : Sl, ∃ n66 : Int, (e63 = Ending.returned (Value.tuple (Array.mk [Value.slice l65.1 l65.2 l65.3, Value.int IntKind.i64 n66])) ∧
                                                                          R (Value.bool ((n66 == 0) == ((↑l12.2 : Int) == 0))) w64))))))))))))))))))))))))))))))))))))))))))))))))
theorem vc_cartularytop_CartularyArchives_ok {x0a : Option Addr} {x0n : Nat} {x0c : Nat} {x1 : ByteArray} {x2 : ByteArray} {w : World} {R : Value → World → Prop} {R' : Ending → World → Prop} (h : vc_cartularytop_CartularyArchives x0a x0n x0c x1 x2 w R) (hR : ∀ v w', R v w' → R' (.returned v) w') :
    Calls Tryz.prog 3 #[.slice x0a x0n x0c, .string x1, .string x2] w R' :=
  calls_of_body (vs := [(.slice x0a x0n x0c, false), (.string x1, false), (.string x2, false)]) (ty := ty) (ann := ⟨[(5, [(2, .str)])], [(18, [(109, .int .i64)])], [(20, .held [(0, true), (1, true), (2, true), (3, true), (5, true), (6, true), (7, true), (8, true), (9, true), (4, false), (10, true), (11, true), (12, true), (13, true), (14, true), (15, true), (16, true), (17, true), (18, true), (19, true), (20, true), (21, true), (22, true), (23, true), (24, true), (25, true), (26, true)])], []⟩) (c := Tryz.f3.body.getD .skip) (by kernel_rfl) Tryz.func3 (by kernel_rfl) (by kernel_rfl) (Eq.mp (by kernel_rfl) h) hR
end Go.Proofs.YtfoeooddnmppnaaGreatDoor

/- CartularyArchives: what is selected, packed and unpacked has the hash that it had. Condition: paths are of at most a megabyte. -/
set_option linter.unusedVariables false
namespace Go.Proofs.YtfoeooddnmppnaaGreatDoor
open Go Vc ShaM HexM StabM B64M Go.Proofs

theorem begB_front (front s : ByteArray) : begB (front ++ s) front = true := by
  unfold begB
  refine decide_eq_true ?_
  rw [bs_app]; exact ⟨_, rfl⟩
theorem cutPre_front (front s : ByteArray) : cutPre (front ++ s) front = s := by
  unfold cutPre
  rw [if_pos (begB_front front s)]
  refine bs_ext ?_
  rw [bs_tail, bs_app, ← bs_len front]; exact List.drop_left
theorem unF_preF (front : ByteArray) (ys : List FileE) : (ys.map (preF front)).map (unF front) = ys := by
  rw [List.map_map]
  refine (List.map_congr_left fun x _ => ?_).trans (List.map_id ys)
  show unF front (preF front x) = id x
  unfold unF preF
  rw [cutPre_front]; rfl
theorem begB_other (v s : ByteArray) : begB (frontE ⟨#[101, 120, 97, 109, 112, 108, 101, 46, 99, 111, 109, 47, 109]⟩ v ++ s) (frontE ⟨#[101, 120, 97, 109, 112, 108, 101, 46, 99, 111, 109, 47, 110]⟩ v) = false := by
  unfold begB
  refine decide_eq_false fun ⟨t, h⟩ => ?_
  unfold frontE at h
  simp only [bs_app, List.append_assoc] at h
  have := congrArg (fun l : List UInt8 => l[12]?) h
  simp at this
theorem zchk_next {zs : List FileE} (h : zchk zs = 0) {k : Nat} {x y : FileE} (hx : zs[k]? = some x) (hy : zs[k + 1]? = some y) : x.path.data.toList < y.path.data.toList := by
  unfold zchk at h
  split at h
  · cases h
  · split at h
    · next h2 =>
      have := List.all_eq_true.1 h2 (k + 1) (List.mem_range.2 (List.getElem?_eq_some_iff.1 hy).1)
      unfold okZ at this
      rw [hy, show k + 1 - 1 = k from rfl, hx] at this
      simp only [Bool.and_eq_true, Bool.or_eq_true] at this
      rcases this.2 with h | h
      · exact absurd (of_decide_eq_true h) (by omega)
      · exact of_decide_eq_true h
    · cases h
theorem zchk_pw {zs : List FileE} (h : zchk zs = 0) : zs.Pairwise fun x y => x.path.data.toList < y.path.data.toList := by
  have key : ∀ (d i : Nat) (x y : FileE), zs[i]? = some x → zs[i + d + 1]? = some y → x.path.data.toList < y.path.data.toList := by
    intro d
    induction d with
    | zero => intro i x y hx hy; exact zchk_next h hx hy
    | succ d ih =>
      intro i x y hx hy
      have hlt := (List.getElem?_eq_some_iff.1 hy).1
      have hz : zs[i + d + 1]? = some zs[i + d + 1] := List.getElem?_eq_getElem (by omega)
      exact List.lt_trans (ih i x _ hx hz) (zchk_next h hz hy)
  refine List.pairwise_iff_getElem.2 fun i j hi hj hij => ?_
  exact key (j - i - 1) i _ _ (List.getElem?_eq_getElem hi) (by rw [show i + (j - i - 1) + 1 = j by omega]; exact List.getElem?_eq_getElem hj)
set_option maxHeartbeats 3200000 in
theorem archives_walk {a : Option Addr} {n c : Nat} {W : World} {xs : List ItE} (hr : ReadsK encI 3 W a xs) (hn : xs.length = n) (hb : ∀ x ∈ xs, x.path.size ≤ 1048576) (dir : ByteArray) (hdir : dir.size ≤ reachBytes) (ver0 : ByteArray) (hml : MaxL W) :
    Calls Tryz.prog F_cartularytop_CartularyArchives #[.slice a n c, .string dir, .string ver0] W fun e w' => e = .returned (.bool true) ∧ RowKit.Below W.heap.size W w' := by
  refine vc_cartularytop_CartularyArchives_ok (R := fun u w' => u = .bool true ∧ Fr (fun _ => False) W w') ?_ (fun u w' h => ⟨by rw [h.1], (h.2.mono fun _ _ h => h.elim : Fr (fun k => W.heap.size ≤ k) W w').below (Nat.le_refl _)⟩)
  have hrb : reachBytes ≤ 140737488355328 := by decide
  refine (hash_spec (xs := []) (c := 0) (.nil _ _) rfl (by decide) ⟨#[109]⟩ ⟨#[118]⟩ (by simp) (by decide) (by simp)).mono ?_
  rintro e w2 ⟨ys0, rfl, hp0, _, _, f2⟩
  have hy0 : ys0 = [] := List.perm_nil.1 hp0
  subst hy0
  refine ⟨_, rfl, fun h => ?_, fun _ => ?_⟩
  · rw [hash0, bs_eq, decide_eq_true rfl] at h; cases h
  refine ⟨fun s w' => s.size ≤ 60 ∧ w' = w2, ⟨fun h => ?_, fun h => ⟨by have := of_decide_eq_false h; omega, rfl⟩⟩, ?_⟩
  · have h := of_decide_eq_true h
    refine ⟨⟨by decide, by omega⟩, ?_, rfl⟩
    rw [ByteArray.size_extract]
    show min 60 ver0.size - 0 ≤ 60
    omega
  rintro ver w6 ⟨hver, hw⟩
  replace hw := hw.symm
  subst hw
  refine (short24_spec (hr.keep f2 (by simp)) hn 30 (by decide)).mono ?_
  rintro e w8 ⟨l9, rfl, o8, f8⟩
  obtain ⟨hl30, hz⟩ := shortI_facts (xs := xs) 30
  have hzp : ∀ x ∈ shortI xs 30, x.path.size ≤ 1048576 := fun x hx => by obtain ⟨y, hy, e⟩ := (hz x hx).2; rw [e]; exact hb y hy
  have hzd : ∀ x ∈ shortI xs 30, x.data.size ≤ 400 := fun x hx => (hz x hx).1
  generalize shortI xs 30 = zs at *
  have g8 := f2.trans' f8
  have h81 := o8.1
  refine ⟨l9, rfl, (select_spec (o8.reads fun _ => rfl) o8.1 (by omega) (dir := dir) (fun x hx => Nat.le_trans (hzp x hx) (by decide)) (fun x hx => Nat.le_trans (hzd x hx) (by decide)) (by omega) (hml.keep g8)).mono ?_⟩
  rintro e w11 ⟨v, rfl, f11, hcase⟩
  have g11 := g8.trans' f11
  rcases hcase with ⟨_, rfl⟩ | ⟨_, ys, hp, hs, hc⟩
  · exact ⟨⟨none, 0, 0⟩, 4, rfl, fun _ => ⟨rfl, g11⟩, fun h => absurd h (by decide)⟩
  rcases hc with ⟨hne, rfl⟩ | ⟨hc0, l12, rfl, o12⟩
  · exact ⟨⟨none, 0, 0⟩, chkE ys, rfl, fun _ => ⟨rfl, g11⟩, fun h => absurd (by simpa using h) hne⟩
  refine ⟨l12, 0, rfl, fun h => absurd h (by decide), fun _ => ?_⟩
  obtain ⟨m, hm⟩ : ∃ m : ByteArray, (⟨#[101, 120, 97, 109, 112, 108, 101, 46, 99, 111, 109, 47, 109]⟩ : ByteArray) = m := ⟨_, rfl⟩
  have hms : m.size = 13 := by rw [← hm]; rfl
  rw [hm]
  have hrs : ∀ x ∈ ys, x.path.size ≤ 1048576 ∧ x.data.size ≤ 400 := fun x hx => sel_sizes (P := 1048576) (B := 400) (by decide) hzp hzd x (hp.subset hx)
  have hyl : ys.length ≤ 31 := by have h1 := hp.length_eq; have h2 := sel_len zs dir; omega
  have htot := totalF_bound (B := 400) ys fun f hf => (hrs f hf).2
  have hpb : ∀ x ∈ ys, x.path.size ≤ 4294967000 := fun x hx => Nat.le_trans (hrs x hx).1 (by decide)
  have hrd : ∀ {w' : World}, Fr (fun _ => False) w11 w' → ReadsK encF 2 w' l12.a ys := fun h => (o12.keep h (by simp)).reads elF.len
  have hyn := o12.1
  refine (pack_spec (c := l12.cap) (hrd (.refl _ _)) hyn (by omega) m ver (by omega) hpb (by omega)).mono ?_
  rintro e w15 ⟨rfl, f15⟩
  have hpk : packE m ver ys = .tuple #[.string (zipE (ys.map (preF (frontE m ver)))), .int .i64 (zchk (ys.map (preF (frontE m ver))))] := by unfold packE; rw [if_pos hc0]
  rw [hpk]
  have hfs := front_size m ver
  have hotherF : ∀ s, begB (frontE m ver ++ s) (frontE ⟨#[101, 120, 97, 109, 112, 108, 101, 46, 99, 111, 109, 47, 110]⟩ ver) = false := fun s => by rw [← hm]; exact begB_other ver s
  refine ⟨_, _, rfl, fun h => ⟨?_, g11.trans' f15⟩, fun h => ?_⟩
  · have h : ¬ zchk (ys.map (preF (frontE m ver))) = 0 := by simpa using h
    unfold zipE
    rw [if_neg h, bs_eq, decide_eq_true rfl]
  have hq0 : zchk (ys.map (preF (frontE m ver))) = 0 := by simpa using h
  have hzE : zipE (ys.map (preF (frontE m ver))) = ⟨(zipL (ys.map (preF (frontE m ver)))).toArray⟩ := by unfold zipE; rw [if_pos hq0]
  rw [hzE]
  refine (munpack_spec hq0 m ver (by omega) w15).mono ?_
  rintro e w19 ⟨v, rfl, f19, hc19⟩
  rw [unF_preF] at hc19
  have hall : ∀ z ∈ ys.map (preF (frontE m ver)), begB z.path (frontE m ver) = true := fun z hz => by
    obtain ⟨y, hy, rfl⟩ := List.mem_map.1 hz
    exact begB_front _ _
  rcases hc19 with ⟨⟨z, hz, hzb⟩, _⟩ | ⟨_, hc19⟩
  · rw [hall z hz] at hzb; cases hzb
  rcases hc19 with ⟨hne, _⟩ | ⟨_, l20, rfl, o20⟩
  · exact absurd hc0 hne
  have g19 : Fr (fun _ => False) w11 w19 := f15.trans' f19
  have hle := zipL_le hq0
  refine ⟨l20, 0, rfl, (zread_spec (good_sto hq0 (by omega)) w19).mono ?_⟩
  rintro e w23 ⟨l24, rfl, o24, f23⟩
  rw [fil_sto] at o24
  have h201 := o20.1
  have hrd20 : ∀ {w' : World}, Fr (fun _ => False) w19 w' → ReadsK encF 2 w' l20.a ys := fun h => (o20.keep h (by simp)).reads elF.len
  refine ⟨l24, 0, rfl, (pack_spec (c := l20.cap) (hrd20 f23) o20.1 (by omega) m ver (by omega) hpb (by omega)).mono ?_⟩
  rintro e w27 ⟨rfl, f27⟩
  rw [hpk, hzE, hq0]
  have g27 : Fr (fun _ => False) w19 w27 := f23.trans' f27
  refine ⟨_, _, rfl, fun h => absurd h (by decide), fun _ => ⟨fun h => absurd h (by decide), fun _ => ⟨fun h => absurd h (by decide), fun _ => (rsame_spec (hrd (g19.trans' g27)) (hrd20 g27) hyn o20.1 (by omega)).mono ?_⟩⟩⟩
  rintro e w31 ⟨⟨r, rfl, hr31⟩, d31⟩
  have hrt := hr31.2 rfl
  subst hrt
  have hl24 := o24.len
  rw [List.length_map] at hl24
  have g31 : Fr (fun _ => False) w19 w31 := g27.trans' (.drew _ d31)
  refine ⟨true, rfl, fun h => (by cases h), fun _ => ⟨fun h => (by rw [bs_eq, decide_eq_true rfl] at h; cases h), fun _ => ⟨fun h => (by rw [hl24, hyn] at h; simp at h), fun _ => ?_⟩⟩⟩
  have hhp : ∀ x ∈ ys, (frontE m ver).size + x.path.size ≤ 562949953421312 := fun x hx => by have := (hrs x hx).1; omega
  have hhd : ∀ x ∈ ys, x.data.size ≤ 1000000 := fun x hx => by have := (hrs x hx).2; omega
  refine (hash_spec (c := l12.cap) (hrd (g19.trans' g31)) hyn (by omega) m ver hhp (by omega) hhd).mono ?_
  rintro e w34 ⟨h1, rfl, hp1, hs1, _, f34⟩
  refine ⟨_, rfl, (hash_spec (c := l20.cap) (hrd20 (g31.trans' f34)) o20.1 (by omega) m ver hhp (by omega) hhd).mono ?_⟩
  rintro e w37 ⟨h2, rfl, hp2, hs2, _, f37⟩
  have hnd : ((ys.map (preF (frontE m ver))).map (·.path)).Nodup := pre_nodup (chk_ok hc0).2.1
  have h12 : h1 = h2 := sorted_one (hp1.trans hp2.symm) ((hp1.map _).nodup_iff.2 hnd) (srt_ge hs1) (srt_ge hs2)
  subst h12
  have g37 : Fr (fun _ => False) w19 w37 := (g31.trans' f34).trans' f37
  refine ⟨_, rfl, fun h => (by rw [bs_eq, decide_eq_true rfl] at h; cases h), fun _ => ?_⟩
  refine ⟨fun i w' => ∃ k : Nat, i = k ∧ k ≤ ys.length ∧ Fr (fun _ => False) w37 w', fun i _ => ys.length - i.toNat, ⟨0, rfl, Nat.zero_le _, .refl _ _⟩, ?_⟩
  rintro i w42 ⟨k, rfl, hk, f42⟩
  have g42 := g37.trans' f42
  have hrd24 : ∀ {w' : World}, Fr (fun _ => False) w23 w' → ReadsK encF 2 w' l24.a (ys.map (preF (frontE m ver))) := fun h => (o24.keep h (by simp)).reads elF.len
  have g23_42 : Fr (fun _ => False) w23 w42 := ((((f27.trans' (.drew _ d31)).trans' f34).trans' f37).trans' f42)
  have e1 : IntKind.i64.wrap ((k : Int) + 1) = ((k + 1 : Nat) : Int) := by rw [wrap_i64 (by omega) (by omega)]; omega
  have hz0 : ∀ q : Addr, q.add 0 = q := fun q => by cases q; rfl
  refine ⟨fun hlt => ?_, fun hge => ?_⟩
  · have hlt := of_decide_eq_true hlt
    have hkl : k < ys.length := by omega
    have hx : ys[k]? = some ys[k] := List.getElem?_eq_getElem hkl
    generalize ys[k] = x at hx
    have hzx : (ys.map (preF (frontE m ver)))[k]? = some (preF (frontE m ver) x) := by rw [List.getElem?_map, hx]; rfl
    obtain ⟨ad, had, hld⟩ := (hrd24 g23_42).load elF hzx
    refine ⟨⟨by omega, by omega⟩, ad, had, (preF (frontE m ver) x).path, (preF (frontE m ver) x).data, by rw [Int.toNat_natCast]; exact hld, fun w46 h46 => ?_⟩
    subst h46
    obtain ⟨w47, hw47⟩ : ∃ w47, w42.alloc (.cells (encF (preF (frontE m ver) x)).toArray T_api_File) = w47 := ⟨_, rfl⟩
    have hfb : Fr (fun _ => False) w42 w47 := by rw [← hw47]; exact .alloc _ _ _
    refine ⟨w47, by rw [← hw47]; exact boxF_run w42 (preF (frontE m ver) x), fun w48 d48 => ?_⟩
    have f48 : Fr (fun _ => False) w42 w48 := hfb.trans' (.drew _ d48)
    have hbx : w48.cell? ⟨w42.heap.size, 0, none⟩ = some (.string (preF (frontE m ver) x).path) := by rw [d48.cell, ← hw47]; exact boxF_cell w42 (preF (frontE m ver) x) (.refl (fun _ => False) _) (by simp) (j := 0) rfl
    obtain ⟨ad2, had2, hrd2⟩ := (hrd ((g19.trans' g42).trans' f48)) k x hx
    have h20 := hrd2 0 (.string x.path) rfl
    rw [hz0] at h20
    refine ⟨fun w' => w' = w48, rfl, (preF (frontE m ver) x).path, fun w' e => by rw [e]; exact hbx, ⟨by omega, by omega⟩, ad2, had2, x.path, fun w' e => by rw [e, Int.toNat_natCast]; exact h20, (front_spec m ver (by omega) w48).mono ?_⟩
    rintro e w56 ⟨rfl, hw⟩
    subst hw
    have hsz := hhp x (List.mem_of_getElem? hx)
    have hnext : (∃ k' : Nat, ((k + 1 : Nat) : Int) = k' ∧ k' ≤ ys.length ∧ Fr (fun _ => False) w37 w56) ∧ ys.length - (((k + 1 : Nat) : Int)).toNat < ys.length - ((k : Int)).toNat := ⟨⟨k + 1, rfl, by omega, f42.trans' f48⟩, by omega⟩
    rw [e1]
    refine ⟨_, rfl, rfl, by omega, fun h => ?_, fun _ => ⟨fun hpos => ?_, fun _ => hnext⟩⟩
    · have hpx : (preF (frontE m ver) x).path = frontE m ver ++ x.path := rfl
      rw [hpx, bs_eq, decide_eq_true rfl] at h; cases h
    · have hpos := of_decide_eq_true hpos
      have hy : ys[k - 1]? = some ys[k - 1] := List.getElem?_eq_getElem (by omega)
      generalize ys[k - 1] = y at hy
      have hzy : (ys.map (preF (frontE m ver)))[k - 1]? = some (preF (frontE m ver) y) := by rw [List.getElem?_map, hy]; rfl
      have e2 : IntKind.i64.wrap ((k : Int) - 1) = ((k - 1 : Nat) : Int) := by rw [wrap_i64 (by omega) (by omega)]; omega
      rw [e2]
      obtain ⟨ad3, had3, hrd3⟩ := (hrd24 (g23_42.trans' f48)) (k - 1) _ hzy
      have h30 := hrd3 0 (.string (preF (frontE m ver) y).path) rfl
      rw [hz0] at h30
      have hless := zchk_next hq0 hzy (by rw [show k - 1 + 1 = k by omega]; exact hzx)
      refine ⟨⟨by omega, by omega⟩, ad3, had3, _, fun w' e => by rw [e, Int.toNat_natCast]; exact h30, _, fun w' e => by rw [e]; exact hbx, fun h => ?_, fun _ => hnext⟩
      rw [ByteArray.toList_eq, ByteArray.toList_eq, Proofs.bytesLess_eq, decide_eq_true hless] at h
      cases h
  · have hge := of_decide_eq_false hge
    refine (munpack_spec hq0 _ ver (by show 13 + ver.size ≤ 1000000; omega) w42).mono ?_
    rintro e w64 ⟨v, rfl, f64, hc64⟩
    have gend : Fr (fun _ => False) W w64 := ((g11.trans' g19).trans' g42).trans' f64
    rcases hc64 with ⟨⟨z, hz, _⟩, rfl⟩ | ⟨hall2, hc64⟩
    · refine ⟨⟨none, 0, 0⟩, 4, rfl, ?_, gend⟩
      have hne : ¬ l12.len = 0 := fun h => by
        have : ys = [] := List.length_eq_zero_iff.1 (by omega)
        rw [this] at hz; simp at hz
      have : ((l12.len : Int) == 0) = false := by simp; omega
      rw [this]; rfl
    · have hnil : ys = [] := by
        cases hys : ys with
        | nil => rfl
        | cons y r =>
          rw [hys] at hall2
          have h1 := hall2 (preF (frontE m ver) y) (by simp)
          have h2 := hotherF y.path
          have h3 : (preF (frontE m ver) y).path = frontE m ver ++ y.path := rfl
          rw [h3, h2] at h1; cases h1
      subst hnil
      have hl0 : l12.len = 0 := hyn.symm
      rcases hc64 with ⟨hne, _⟩ | ⟨_, l65, rfl, _⟩
      · exact absurd hc0 hne
      · refine ⟨l65, 0, rfl, ?_, gend⟩
        rw [hl0]; rfl
end Go.Proofs.YtfoeooddnmppnaaGreatDoor

/- Slices of structs that came in, opened to cells. No condition: for all programs. -/
set_option linter.unusedVariables false
namespace Vc
open Go Go.ChangeShapes Go.WideShapes Go.Deep
section
variable {H : Type} {enc : TypeId × Value → H} {P : Program} {w : World} {base : Nat} {spare : Nat → Bool} {held : Bool}
/-- What the fields of an element say, its cells say. -/
def FieldsSay (enc : TypeId × Value → H) (P : Program) (w : World) (base : Nat) (spare : Nat → Bool) (held : Bool) (fs : Array Field) (Q : List Value → Prop) : Prop :=
  ∀ n (cs : List Value), cs.length = fs.size → (∀ (j : Nat) (f : Field) (v : Value), fs[j]? = some f → cs[j]? = some v → ∃ y, DataW.trod enc P w base spare held n f.type [v] = some y) → Q cs
theorem open_rows {t e : TypeId} {fs : Array Field} {fuel : Nat} {a : Option Addr} {len cap : Nat} {x : DataW H × List MemPlace} {Q : List Value → Prop} (ht : P.underlying t = some (.slice e)) (he : P.underlying e = some (.struct fs))
    (hone : oneCellFields P fs = true) (hC : P.cellsOf e = fs.size) (hQ : FieldsSay enc P w base spare held fs Q) (h : DataW.trod enc P w base spare held fuel t [.slice a len cap] = some x) : IsRows fs.size Q w a len := by
  intro i hi
  rcases open_slice ht h with ⟨h0, _⟩ | ⟨b, l, c, m, n, D, Pl, hcs, hb, hl, hm, hmm, hx, hi'⟩
  · simp only [List.cons.injEq, Value.slice.injEq] at h0; omega
  · simp only [List.cons.injEq, Value.slice.injEq, and_true] at hcs
    obtain ⟨rfl, rfl, rfl⟩ := hcs
    obtain ⟨cs, hc, htr⟩ := hi' i (by rw [hmm]; split <;> omega)
    obtain ⟨ys, n', _, _, hlen, hyl, hf⟩ := DataW.trod_struct he htr
    obtain ⟨_, hcl, hat⟩ := World.cells?_some hc
    rw [hC] at hcl hat
    refine ⟨b, cs, rfl, hcl, hQ n' cs hcl ?_, ?_⟩
    · intro j f v hj hv
      obtain ⟨ho, hk⟩ := hone_of hone j f hj
      have hjl : j < fs.size := (Array.getElem?_eq_some_iff.1 hj).1
      have h1 := hf j f hj
      have h2 : (cs.drop j).take 1 = [v] := by
        obtain ⟨hjl', hv'⟩ := List.getElem?_eq_some_iff.1 hv
        rw [List.drop_eq_getElem_cons hjl', hv']; rfl
      rw [ho, hk, h2, List.getElem?_eq_getElem (show j < ys.length by omega)] at h1
      exact ⟨_, h1⟩
    · intro j v hv
      have hjl := (List.getElem?_eq_some_iff.1 hv).1
      rw [← hv, ← hat j (by omega), add_add]
/-- As above, and what was read takes no more bytes than memory has. -/
def FieldsSayW (enc : TypeId × Value → H) (P : Program) (w : World) (base : Nat) (spare : Nat → Bool) (held : Bool) (fs : Array Field) (Q : List Value → Prop) : Prop :=
  ∀ n (cs : List Value), cs.length = fs.size → (∀ (j : Nat) (f : Field) (v : Value), fs[j]? = some f → cs[j]? = some v → ∃ y, DataW.trod enc P w base spare held n f.type [v] = some y ∧ (y.1.weights P f.type).all (· ≤ reachBytes) = true) → Q cs
theorem weightsAll_mem {e : TypeId} : ∀ {ds : List (DataW H)} {d : DataW H}, d ∈ ds → ∀ n ∈ d.weights P e, n ∈ DataW.weightsAll P e ds
  | d0 :: ds, d, h, n, hn => by
    simp only [DataW.weightsAll, List.mem_append]
    rcases List.mem_cons.1 h with rfl | h
    · exact .inl hn
    · exact .inr (weightsAll_mem h n hn)
theorem open_rowsW {t e : TypeId} {fs : Array Field} {fuel : Nat} {a : Option Addr} {len cap : Nat} {x : DataW H × List MemPlace} {Q : List Value → Prop} (ht : P.underlying t = some (.slice e)) (he : P.underlying e = some (.struct fs))
    (hone : oneCellFields P fs = true) (hC : P.cellsOf e = fs.size) (hsz : (x.1.weights P t).all (· ≤ reachBytes) = true) (hQ : FieldsSayW enc P w base spare held fs Q) (h : DataW.trod enc P w base spare held fuel t [.slice a len cap] = some x) : IsRows fs.size Q w a len ∧ len ≤ cap := by
  rcases open_slice ht h with ⟨h0, _⟩ | ⟨b, l, c, m, n, D, Pl, hcs, hb, hl, hm, hmm, hx, hi'⟩
  · simp only [List.cons.injEq, Value.slice.injEq, and_true] at h0
    exact ⟨fun i hi => by omega, by omega⟩
  · simp only [List.cons.injEq, Value.slice.injEq, and_true] at hcs
    obtain ⟨rfl, rfl, rfl⟩ := hcs
    refine ⟨fun i hi => ?_, hl⟩
    obtain ⟨cs, hc, htr⟩ := hi' i (by rw [hmm]; split <;> omega)
    have hwD : ((D i).weights P e).all (· ≤ reachBytes) = true := by
      rw [List.all_eq_true] at hsz ⊢
      intro q hq
      refine hsz q ?_
      rw [hx]
      simp only [DataW.weights, ht, List.mem_cons, List.mem_append]
      exact .inr (.inl (weightsAll_mem (List.mem_map.2 ⟨i, List.mem_range.2 hi, rfl⟩) q hq))
    obtain ⟨ys, n', _, hxe, hlen, hyl, hf⟩ := DataW.trod_struct he htr
    obtain ⟨_, hcl, hat⟩ := World.cells?_some hc
    rw [hC] at hcl hat
    refine ⟨b, cs, rfl, hcl, hQ n' cs hcl ?_, ?_⟩
    · intro j f v hj hv
      obtain ⟨ho, hk⟩ := hone_of hone j f hj
      have hjl : j < fs.size := (Array.getElem?_eq_some_iff.1 hj).1
      have h1 := hf j f hj
      have h2 : (cs.drop j).take 1 = [v] := by
        obtain ⟨hjl', hv'⟩ := List.getElem?_eq_some_iff.1 hv
        rw [List.drop_eq_getElem_cons hjl', hv']; rfl
      rw [ho, hk, h2, List.getElem?_eq_getElem (show j < ys.length by omega)] at h1
      refine ⟨_, h1, ?_⟩
      have hDe : D i = .agg (ys.map (·.1)) := by
        have := congrArg Prod.fst hxe
        simpa using this
      rw [hDe] at hwD
      simp only [DataW.weights, he] at hwD
      rw [List.all_eq_true] at hwD ⊢
      intro q hq
      refine hwD q (DataW.weights_mem_each (j := j) (t := f.type) (d := (ys[j]'(by omega)).1) ?_ ?_ q hq)
      · rw [List.getElem?_map, Array.getElem?_toList, hj]; rfl
      · rw [List.getElem?_map, List.getElem?_eq_getElem (show j < ys.length by omega)]; rfl
    · intro j v hv
      have hjl := (List.getElem?_eq_some_iff.1 hv).1
      rw [← hv, ← hat j (by omega), add_add]
/-- A slice of one-celled elements: what an element says, its cell says. -/
theorem open_cells {t e : TypeId} {fuel : Nat} {a : Option Addr} {len cap : Nat} {x : DataW H × List MemPlace} {Q : List Value → Prop} (ht : P.underlying t = some (.slice e)) (hC : P.cellsOf e = 1)
    (hQ : ∀ n v y, DataW.trod enc P w base spare held n e [v] = some y → Q [v]) (h : DataW.trod enc P w base spare held fuel t [.slice a len cap] = some x) : IsRows 1 Q w a len := by
  intro i hi
  rcases open_slice ht h with ⟨h0, _⟩ | ⟨b, l, c, m, n, D, Pl, hcs, hb, hl, hm, hmm, hx, hi'⟩
  · simp only [List.cons.injEq, Value.slice.injEq] at h0; omega
  · simp only [List.cons.injEq, Value.slice.injEq, and_true] at hcs
    obtain ⟨rfl, rfl, rfl⟩ := hcs
    obtain ⟨cs, hc, htr⟩ := hi' i (by rw [hmm]; split <;> omega)
    obtain ⟨_, hcl, hat⟩ := World.cells?_some hc
    rw [hC] at hcl hat
    obtain ⟨v, rfl⟩ : ∃ v, cs = [v] := List.length_eq_one_iff.1 hcl
    refine ⟨b, [v], rfl, rfl, hQ _ v _ htr, ?_⟩
    intro j u hu
    have hjl := (List.getElem?_eq_some_iff.1 hu).1
    rw [← hu, ← hat j hjl, add_add]
end
end Vc

/- The items that came in, as a list. No condition. -/
set_option linter.unusedVariables false
namespace Go.Proofs.YtfoeooddnmppnaaGreatDoor
open Go Vc Go.Proofs Go.RowKit

theorem items_of {W : World} {a : Option Addr} {B : Nat} : ∀ (n : Nat), IsRows 3 (fun vs => ∃ x0 x1 x2, vs = [.string x0, .int .i64 x1, .string x2] ∧ x0.size ≤ B ∧ (Lit.int .i64 x1).wf = true ∧ x2.size ≤ B) W a n → ∃ xs : List ItE, xs.length = n ∧ ReadsK encI 3 W a xs ∧ (∀ x ∈ xs, x.path.size ≤ B)
  | 0, _ => ⟨[], rfl, .nil _ _, fun x hx => by simp at hx⟩
  | n + 1, h => by
    obtain ⟨xs, hE, hR, hB⟩ := items_of n fun i hi => h i (by omega)
    obtain ⟨ad, vs, had, hl, ⟨x0, x1, x2, rfl, h1, _, _⟩, hc⟩ := h n (by omega)
    refine ⟨xs ++ [⟨x0, x1, x2⟩], by rw [List.length_append, hE]; rfl, fun i x hx => ?_, fun x hx => ?_⟩
    · by_cases hi : i < xs.length
      · rw [List.getElem?_append_left hi] at hx
        exact hR i x hx
      · rw [List.getElem?_append_right (by omega)] at hx
        have hi0 : i - xs.length = 0 := by
          by_cases h : i - xs.length = 0
          · exact h
          · rw [List.getElem?_eq_none (by simp; omega)] at hx; cases hx
        rw [hi0] at hx
        simp only [List.getElem?_cons_zero, Option.some.injEq] at hx
        subst hx
        refine ⟨ad, had, fun j v hv => ?_⟩
        have := hc j v hv
        rw [add_add, show i = n by omega]
        exact this
    · rcases List.mem_append.1 hx with hx | hx
      · exact hB x hx
      · simp only [List.mem_cons, List.mem_nil_iff, or_false] at hx
        subst hx; exact h1
end Go.Proofs.YtfoeooddnmppnaaGreatDoor

/- What the bound of the narrower form gives of the structs of a slice that came in. No condition. -/
set_option linter.unusedVariables false
namespace Go.Proofs.YtfoeooddnmppnaaGreatDoor
open Go Vc Go.ChangeShapes Go.WideShapes Go.Deep
section
variable {H : Type}
theorem bulk_part {d : DataW H} {l : List (DataW H)} (h : d ∈ l) : Rows.uptoBulk d ≤ Rows.uptoBulkAll l := by
  induction l with
  | nil => cases h
  | cons x r ih =>
    simp only [Rows.uptoBulkAll]
    rcases List.mem_cons.1 h with rfl | e
    · omega
    · have := ih e; omega
theorem bulk_left (l r : List (DataW H)) : Rows.uptoBulkAll l ≤ Rows.uptoBulkAll (l ++ r) := by
  induction l with
  | nil => simp [Rows.uptoBulkAll]
  | cons x l ih => simp only [List.cons_append, Rows.uptoBulkAll]; omega
variable {enc : TypeId × Value → H} {P : Program} {w : World} {base : Nat} {spare : Nat → Bool} {held : Bool}
def FieldsSayU (enc : TypeId × Value → H) (P : Program) (w : World) (base : Nat) (spare : Nat → Bool) (held : Bool) (B : Nat) (fs : Array Field) (Q : List Value → Prop) : Prop :=
  ∀ n (cs : List Value), cs.length = fs.size → (∀ (j : Nat) (f : Field) (v : Value), fs[j]? = some f → cs[j]? = some v → ∃ y, DataW.trod enc P w base spare held n f.type [v] = some y ∧ Rows.uptoBulk y.1 ≤ B) → Q cs
theorem open_rowsU {B : Nat} {t e : TypeId} {fs : Array Field} {fuel : Nat} {a : Option Addr} {len cap : Nat} {x : DataW H × List MemPlace} {Q : List Value → Prop} (ht : P.underlying t = some (.slice e)) (he : P.underlying e = some (.struct fs))
    (hone : oneCellFields P fs = true) (hC : P.cellsOf e = fs.size) (hsz : Rows.uptoBulk x.1 ≤ B) (hQ : FieldsSayU enc P w base spare held B fs Q) (h : DataW.trod enc P w base spare held fuel t [.slice a len cap] = some x) : IsRows fs.size Q w a len ∧ len ≤ cap := by
  rcases open_slice ht h with ⟨h0, _⟩ | ⟨b, l, c, m, n, D, Pl, hcs, hb, hl, hm, hmm, hx, hi'⟩
  · simp only [List.cons.injEq, Value.slice.injEq, and_true] at h0
    exact ⟨fun i hi => by omega, by omega⟩
  · simp only [List.cons.injEq, Value.slice.injEq, and_true] at hcs
    obtain ⟨rfl, rfl, rfl⟩ := hcs
    refine ⟨fun i hi => ?_, hl⟩
    obtain ⟨cs, hc, htr⟩ := hi' i (by rw [hmm]; split <;> omega)
    have hwD : Rows.uptoBulk (D i) ≤ B := by
      refine Nat.le_trans ?_ hsz
      rw [hx]
      simp only [Rows.uptoBulk]
      have := bulk_part (List.mem_map.2 ⟨i, List.mem_range.2 hi, rfl⟩ : D i ∈ (List.range len).map D)
      omega
    obtain ⟨ys, n', _, hxe, hlen, hyl, hf⟩ := DataW.trod_struct he htr
    obtain ⟨_, hcl, hat⟩ := World.cells?_some hc
    rw [hC] at hcl hat
    refine ⟨b, cs, rfl, hcl, hQ n' cs hcl ?_, ?_⟩
    · intro j f v hj hv
      obtain ⟨ho, hk⟩ := hone_of hone j f hj
      have hjl : j < fs.size := (Array.getElem?_eq_some_iff.1 hj).1
      have h1 := hf j f hj
      have h2 : (cs.drop j).take 1 = [v] := by
        obtain ⟨hjl', hv'⟩ := List.getElem?_eq_some_iff.1 hv
        rw [List.drop_eq_getElem_cons hjl', hv']; rfl
      rw [ho, hk, h2, List.getElem?_eq_getElem (show j < ys.length by omega)] at h1
      refine ⟨_, h1, ?_⟩
      have hDe : D i = .agg (ys.map (·.1)) := by
        have := congrArg Prod.fst hxe
        simpa using this
      rw [hDe] at hwD
      simp only [Rows.uptoBulk] at hwD
      have := bulk_part (List.mem_map.2 ⟨ys[j]'(by omega), List.getElem_mem _, rfl⟩ : (ys[j]'(by omega)).1 ∈ ys.map (·.1))
      omega
    · intro j v hv
      have hjl := (List.getElem?_eq_some_iff.1 hv).1
      rw [← hv, ← hat j (by omega), Vc.add_add]
end
end Go.Proofs.YtfoeooddnmppnaaGreatDoor

/- The statement CartularyArchivesSaid of this seat: for every input the law returns true and its arguments read as they did. No condition. -/
namespace Go.Proofs.YtfoeooddnmppnaaGreatDoor.cartularyArchives
open Go.ChangeShapes Go.WideShapes Go.ChangeAt Go.RowKit
open Go.ChangeMaps (open_string shut_string)
set_option linter.unusedVariables false

theorem own : ownKnob Tryz.prog.godebug = none := by kernel_rfl
theorem laidOut : laidOutB Tryz.prog = true := by kernel_rfl

set_option maxRecDepth 100000 in
theorem contract (H : Type) (enc : TypeId × Value → H) (W : World) (base : Nat) (args : Array Value) (ds gs : List (DataW H)) (before : List MemPlace)
    (hval0 : ∀ (j : Nat) t v, Tryz.f3.params[j]? = some t → args[j]? = some v → Value.okWide Tryz.prog W .any base t v)
    (hW : DataW.Whole enc Tryz.prog Tryz.f3.params.toList Rows.cartularyArchivesSpec.vars false W args.toList ds gs before) (hcond0 : Rows.uptoBulkAll (ds ++ gs) ≤ 1048576)
    (hsz : (DataW.weightsEach Tryz.prog (Tryz.f3.params.toList ++ (Rows.OpenSpec.upto Rows.cartularyArchivesSpec).bare.plain.varTypes Tryz.prog) (ds ++ gs)).all (· ≤ reachBytes) = true)
    (hL : laidMetH Tryz.prog Rows.cartularyArchivesUptoRow.laid W) (hS : W.ShapedOpen Tryz.prog) :
    Calls Tryz.prog 3 args W fun e W' => ∃ v, e = .returned v ∧ Rows.cartularyArchivesSpec.post enc Tryz.prog Tryz.f3 false true false false W args v W' := by
  have hcond := Nat.le_trans (bulk_left ds gs) hcond0
  have hval : ∀ (j : Nat) t v, Tryz.f3.params[j]? = some t → args[j]? = some v → Value.okWide Tryz.prog W .any base t v := hval0
  have hW' := hW
  obtain ⟨p, q, hA0, hV, rfl, hfz, hnd⟩ := hW
  have hA : DataW.TrodAll enc Tryz.prog W 0 (fun _ => true) true Tryz.f3.params.toList args.toList ds p := hA0
  rw [Tryz.params3] at hA hval
  obtain ⟨v0, vs0, d0, ds0, p0, q0, hargs, rfl, rfl, h0, r0⟩ := trodAll_cons hA
  obtain ⟨v1, vs1, d1, ds1, p1, q1, rfl, rfl, rfl, h1, r1⟩ := trodAll_cons r0
  obtain ⟨v2, vs2, d2, ds2, p2, q2, rfl, rfl, rfl, h2, r2⟩ := trodAll_cons r1
  obtain ⟨rfl, rfl, rfl⟩ := trodAll_nil r2
  obtain rfl : args = #[v0, v1, v2] := by cases args; simp_all
  obtain ⟨rfl, rfl⟩ := trodVars_none hV
  obtain ⟨a0, len0, cap0, rfl⟩ := okWide_slice Tryz.underlying22 (hval 0 22 v0 rfl rfl)
  have k0 := h0
  have lt0 : ∀ x ∈ p0, x.block < W.heap.size := by obtain ⟨m, hm⟩ := k0; exact DataW.trod_lt m _ _ _ hm
  obtain ⟨w0, c0⟩ : Vc.IsRows 3 (fun vs => ∃ x0 x1 x2, vs = [.string x0, .int .i64 x1, .string x2] ∧ x0.size ≤ 1048576 ∧ (Lit.int .i64 x1).wf = true ∧ x2.size ≤ 1048576) W a0 len0 ∧ len0 ≤ cap0 := by
    obtain ⟨fuel, hf⟩ := h0
    refine open_rowsU (B := 1048576) Tryz.underlying22 Tryz.underlying54 (by kernel_rfl) (by kernel_rfl) (Nat.le_trans (bulk_part (by simp)) hcond) ?_ hf
    intro n cs hcs hall
    match cs, hcs with
    | [c0, c1, c2], _ =>
      obtain ⟨y0, g0, k0⟩ := hall 0 _ c0 rfl rfl
      obtain ⟨x0, e0, d0, f0⟩ := DataW.trod_string Tryz.underlying9 g0
      obtain rfl := (List.cons.inj e0).1
      have f0 : x0.size ≤ 1048576 := by
        have hk := k0
        rw [d0] at hk
        simp only [Rows.uptoBulk] at hk
        have e : x0.data.toList.length = x0.size := by simp
        have e2 : x0.toList.length = x0.size := by rw [Lib.toList_data]; exact e
        omega
      obtain ⟨y1, g1, k1⟩ := hall 1 _ c1 rfl rfl
      obtain ⟨x1, e1, d1, f1⟩ := DataW.trod_int Tryz.underlying3 g1
      obtain rfl := (List.cons.inj e1).1
      obtain ⟨y2, g2, k2⟩ := hall 2 _ c2 rfl rfl
      obtain ⟨x2, e2, d2, f2⟩ := DataW.trod_string Tryz.underlying9 g2
      obtain rfl := (List.cons.inj e2).1
      have f2 : x2.size ≤ 1048576 := by
        have hk := k2
        rw [d2] at hk
        simp only [Rows.uptoBulk] at hk
        have e : x2.data.toList.length = x2.size := by simp
        have e2 : x2.toList.length = x2.size := by rw [Lib.toList_data]; exact e
        omega
      exact ⟨x0, x1, x2, rfl, f0, f1, f2⟩
  obtain ⟨a1, rfl, rfl, rfl, w1⟩ := open_string Tryz.underlying9 (hval 1 9 v1 rfl rfl) h1
  have b1 : a1.size ≤ reachBytes := by have := sized_string hsz (j := 1) (t := 9) rfl rfl; simpa using this
  obtain ⟨a2, rfl, rfl, rfl, w2⟩ := open_string Tryz.underlying9 (hval 2 9 v2 rfl rfl) h2
  have b2 : a2.size ≤ reachBytes := by have := sized_string hsz (j := 2) (t := 9) rfl rfl; simpa using this
  clear hA0 hval0
  refine ((items_of len0 w0).elim fun xs h => archives_walk h.2.1 h.1 h.2.2 a1 b1 a2 (maxL_of hS)).mono fun e W' ⟨he, bel⟩ => ?_
  subst he
  exact ⟨_, rfl, _, _, _, [], _, [], hW', trodAll_mk1 (shut_bool Tryz.underlying4 _), (trodAll_cons_mk (Below.trod laidOut (by kernel_rfl) (of_decide_eq_true (by kernel_rfl)) k0 bel lt0) (trodAll_cons_mk (shut_string Tryz.underlying9 w1) (trodAll_cons_mk (shut_string Tryz.underlying9 w2) trodAll_mk0))), rfl, bel.frame _, fun h => by cases h⟩

theorem reads (os : Os) {H : Type} (enc : TypeId × Value → H) : ∃ x : List (DataW H) × List (DataW H) × List MemPlace, DataW.whole enc Tryz.prog ((World.laidAll Tryz.prog os Rows.cartularyArchivesUptoRow.laid).forCall (fun _ _ => 0) ⟨#[], #[.slice none 0 0, .string ByteArray.empty, .string ByteArray.empty], []⟩).memory Tryz.f3.params.toList Rows.cartularyArchivesSpec.vars false (#[.slice none 0 0, .string ByteArray.empty, .string ByteArray.empty] : Array Value).toList 8 = some x ∧ Rows.uptoBulkAll (x.1 ++ x.2.1) ≤ 1048576 :=
  ⟨([.nil, .lit (.string []), .lit (.string [])], [], []), by kernel_rfl, of_decide_eq_true (by kernel_rfl)⟩
set_option maxRecDepth 100000 in
theorem lifted (os : Os) (started : os.Started) (H : Type) (enc : TypeId × Value → H) (F : Stop.Interp) :
    ReturnsInHanded {} Tryz.checked os 3 .any ((Rows.OpenSpec.upto Rows.cartularyArchivesSpec).preRow enc Tryz.prog Tryz.f3 Rows.cartularyArchivesUptoRow.domain false Rows.cartularyArchivesUptoRow.laid) (((Rows.OpenSpec.upto Rows.cartularyArchivesSpec).at F).post enc Tryz.prog Tryz.f3 false true false false) := by
  obtain ⟨x, hx, hb⟩ := reads os enc
  refine returnsInHanded_of_row (C := Tryz.checked) (s := Rows.OpenSpec.upto Rows.cartularyArchivesSpec) own started (by kernel_rfl) Tryz.func3
    (witness_row_at (enc := enc) (C := Tryz.checked) false (World.laidAll Tryz.prog os Rows.cartularyArchivesUptoRow.laid) #[.slice none 0 0, .string ByteArray.empty, .string ByteArray.empty] (World.laidAll_os _ _ _) (by kernel_rfl) (by kernel_rfl) (by kernel_rfl)
      (OpenSpec.preRow_of_cond 8 hx (by rfl) (fun k hk => by cases hk; exact decide_eq_true hb) (by kernel_rfl) (by rw [MakeChecks.laidMetH_plain _ _ _ (by kernel_rfl)]; exact laidMet_laidAll _ (by kernel_rfl) (by kernel_rfl)))) ?_
  intro W base args ds gs before hval hW _ hk hsz hL hS _
  exact contract H enc W base args ds gs before hval hW (of_decide_eq_true (hk _ rfl)) hsz hL hS

theorem over : Rows.cartularyArchivesUptoRow.holds Tryz.pinned (Rows.OpenSpec.upto Rows.cartularyArchivesSpec) :=
  OpenClaim.holds_of_cond 3 Tryz.f3 rfl rfl rfl rfl rfl rfl rfl ⟨rfl, rfl, rfl, rfl, rfl⟩ rfl rfl rfl rfl rfl (by kernel_rfl) Tryz.func3 (by kernel_rfl)
    (of_decide_eq_true (by kernel_rfl)) (by unfold Func.isWrapper; first | (rw [if_pos (by decide +kernel)]; kernel_rfl) | (rw [if_neg (by decide +kernel)]; exact ⟨rfl, rfl⟩))
    (fun os started H enc _ F => by rw [OpenClaim.pre_eq_preRow]; exact lifted os started H enc F)

/-- The statement. -/
theorem proved : Rows.CartularyArchivesUptoCardSaid :=
  Claim7.holds_tied_plain_at .later [] [.data, .pinned] true (true, "14840a003f4b3c9e698547d8dcaf20e24adb78195f613e470e6a842cc068edcd") true over (fun _ h => by cases h) (by kernel_rfl) (fun _ h => by cases h) cartularyArchivesUpto_row_tie rfl ⟨rfl, rfl⟩ (by kernel_rfl) rfl
    (fun f fn hf hfn => by
      obtain rfl : f = 3 := Option.some.inj ((show Tryz.prog.funcNamed "cartulary/cartularytop.CartularyArchives" = some 3 by kernel_rfl).symm.trans hf) |>.symm
      obtain rfl : fn = Tryz.f3 := (Option.some.inj (Tryz.func3.symm.trans hfn)).symm
      exact ⟨by kernel_rfl, fun j t ht => by
        rw [Tryz.params3] at ht
        have hm : t ∈ [22, 9] := by simpa using Array.mem_of_getElem? ht
        have hall : ([22, 9].all fun u => !Tryz.prog.wantsStandIn u) = true := by kernel_rfl
        exact (show Tryz.prog.wantsStandIn t = false by simpa using List.all_eq_true.1 hall t hm)⟩)
    (by kernel_rfl)
#print axioms proved
end Go.Proofs.YtfoeooddnmppnaaGreatDoor.cartularyArchives
