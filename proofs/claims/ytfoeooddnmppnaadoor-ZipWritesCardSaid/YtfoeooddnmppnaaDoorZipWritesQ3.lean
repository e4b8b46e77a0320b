/- Texts of this seat in one: made by a program of ours. -/
import Derived.Test.YtfoeooddnmppnaaDoorZipWritesQ0
import Derived.Test.YtfoeooddnmppnaaDoorZipWritesQ1
import Derived.Test.YtfoeooddnmppnaaDoorZipWritesQ2
import Derived.Test.YtfoeooddnmppnaaDoorProg
import Derived.Deep.Slices
import Derived.Deep.Fields
import Derived.ChangeSame
import Derived.SizedLaws
import Derived.Test.YtfoeooddnmppnaaDoorRows
import Derived.Test.YtfoeooddnmppnaaDoorCards
import Derived.Test.YtfoeooddnmppnaaDoorTie
import Derived.WalkKit
import Derived.ProofKit
import Derived.OpenShut
import Derived.ShutString
import Derived.ChangeOld
import Derived.Below
import Derived.SevenTiedAt
import Derived.LaidMore
import Derived.Lay
import Derived.LaidOnce
/- The reference's Text; chapter 23's awake; zip.Read of no bytes. Conditions: as named. -/
set_option linter.unusedVariables false
namespace Go.Proofs.YtfoeooddnmppnaaDoor
open Go Vc SumM Go.Proofs

theorem zread_short {s : ByteArray} (hs : s.size < 22) (w : World) :
    Calls Tryd.prog F_zip_Read #[.string s] w fun e w' => e = .returned (.tuple #[.slice none 0 0, .int .i64 6]) ∧ Fr (fun _ => False) w w' := by
  refine vc_zip_Read_ok (R := fun v w' => v = .tuple #[.slice none 0 0, .int .i64 6] ∧ Fr (fun _ => False) w w') ?_ (fun v w' h => ⟨by rw [h.1], h.2⟩)
  intro w1 h1 w2 h2
  have f1 : Fr (fun _ => False) w w1 := by rw [h1]; exact .alloc _ _ _
  have f2 : Fr (fun _ => False) w1 w2 := by rw [h2]; exact .alloc _ _ _
  have hA : w2.heap[w.heap.size]? = some (.cells #[.slice none 0 0] T_S_api_File (0, 0)) := f2.keep (by rw [h1]; exact alloc_new w _) (by simp)
  have s1 : w1.heap.size = w.heap.size + 1 := by rw [h1]; simp
  have hE : w2.heap[w1.heap.size]? = some (.cells #[.int .i64 0] T_api_Errno (0, 0)) := by rw [h2]; exact alloc_new w1 _
  refine ⟨fun h => absurd (of_decide_eq_true h) (by omega), fun _ => ⟨fun _ => ⟨wr_blk hA (Nat.lt_succ_self 0), fun w7 h7 => ?_⟩, fun h => absurd (of_decide_eq_false h) (by omega)⟩⟩
  have hA7 : w7.heap[w.heap.size]? = some (.cells #[.slice none 0 0] T_S_api_File (0, 0)) := by rw [h7, set_blk hA]; rfl
  have f7 : Fr (· = w.heap.size) w2 w7 := by rw [h7]; exact Fr.set (· = w.heap.size) w2 (a := ⟨w.heap.size, 0, none⟩) _ rfl
  have hE7 := f7.keep hE (by omega)
  refine ⟨wr_blk hE7 (Nat.lt_succ_self 0), fun w8 h8 => ?_⟩
  have hE8 : w8.heap[w1.heap.size]? = some (.cells #[.int .i64 6] T_api_Errno (0, 0)) := by rw [h8, set_blk hE7]; rfl
  have f8 : Fr (· = w1.heap.size) w7 w8 := by rw [h8]; exact Fr.set (· = w1.heap.size) w7 (a := ⟨w1.heap.size, 0, none⟩) _ rfl
  refine ⟨⟨none, 0, 0⟩, load_one (by kernel_rfl) (by rw [cell_blk (f8.keep hA7 (by omega))]; rfl), 6, load_one (by kernel_rfl) (by rw [cell_blk hE8]; rfl), rfl, ?_⟩
  exact ((f1.trans' f2).trans f7 fun q hq e => by omega).trans f8 fun q hq e => by omega
theorem reads_snoc {w : World} {a : Option Addr} {xs : List Value} : ∀ {v : Value}, Reads w a (xs ++ [v]) → Reads w a (xs ++ [v]) := fun h => h
set_option maxHeartbeats 1600000 in
theorem rtext_spec {w : World} {a : Option Addr} {n c : Nat} {ys : List FileE} (hr : ReadsK encF 2 w a ys) (hn : ys.length = n) (hx : ∀ y ∈ ys, y.data.size < 4294967296 ∧ y.path.size < 4294967296) (ho : (outL ys).length ≤ 1099511627776) (hi : (idxL 0 ys).length ≤ 1099511627776) (hl : n ≤ 100000) :
    Calls Tryd.prog F_cartularyref23_Text #[.slice a n c] w fun e w' => e = .returned (.string ⟨(zipL ys).toArray⟩) ∧ Fr (fun _ => False) w w' := by
  refine vc_cartularyref23_Text_ok (R := fun v w' => v = .string ⟨(zipL ys).toArray⟩ ∧ Fr (fun _ => False) w w') ?_ (fun v w' h => ⟨by rw [h.1], h.2⟩)
  intro w1 h1 w2 h2
  have f1 : Fr (fun _ => False) w w1 := by rw [h1]; exact .alloc _ _ _
  have f2 : Fr (fun _ => False) w1 w2 := by rw [h2]; exact .alloc _ _ _
  have s1 : w1.heap.size = w.heap.size + 1 := by rw [h1]; simp
  have p2 : Vc.Own w2 w.heap.size T_string ⟨some ⟨w.heap.size, 0, none⟩, 0, 0⟩ [] := (by rw [h1]; exact own_empty w T_string : Vc.Own w1 w.heap.size T_string ⟨some ⟨w.heap.size, 0, none⟩, 0, 0⟩ []).keep f2 (by simp)
  have m2 : Vc.Own w2 w.heap.size T_int ⟨some ⟨w1.heap.size, 0, none⟩, 0, 0⟩ [] := (by rw [h2]; exact own_empty w1 T_int : Vc.Own w2 w1.heap.size T_int ⟨some ⟨w1.heap.size, 0, none⟩, 0, 0⟩ []).mono (by omega)
  have tk : ∀ k, (ys.take k).length ≤ 100000 := fun k => by rw [List.length_take]; omega
  refine ⟨fun lp lm i w' => ∃ k : Nat, i = k ∧ k ≤ ys.length ∧ Vc.Own w' w.heap.size T_string lp (pakV ((ys.take k).map stoZ)) ∧ Vc.Own w' w.heap.size T_int lm (metV ((ys.take k).map stoZ)) ∧ (∀ p q, lp.a = some p → lm.a = some q → p.block ≠ q.block) ∧ Fr (fun _ => False) w w', fun _ _ i _ => ys.length - i.toNat,
    ⟨0, rfl, Nat.zero_le _, p2, m2, fun p q hp hq => by cases hp; cases hq; simp only; omega, f1.trans' f2⟩, ?_⟩
  clear p2 m2
  rintro lp lm i w8 ⟨k, rfl, hk, op, om, hdis, hf⟩
  have hw8 := hf.size
  have lpk : (pakV ((ys.take k).map stoZ)).length ≤ 100000 := by unfold pakV; rw [List.length_map, List.length_map]; exact tk k
  have lmk : (metV ((ys.take k).map stoZ)).length ≤ 100000 := by unfold metV; rw [List.length_map, List.length_map]; exact tk k
  refine ⟨fun hlt => ?_, fun hge => ?_⟩
  · have hlt := of_decide_eq_true hlt
    have hkl : k < ys.length := by omega
    have hyk : ys[k]? = some ys[k] := List.getElem?_eq_getElem hkl
    have htk : ys.take (k + 1) = ys.take k ++ [ys[k]] := (List.take_append_getElem hkl).symm
    generalize ys[k] = y at hyk htk
    obtain ⟨ad, had, hld⟩ := (hr.keep hf (by simp)).load elF hyk
    rw [Int.toNat_natCast]
    refine ⟨⟨by omega, by omega⟩, ad, had, y.path, y.data, hld, fun w12 h12 => ?_⟩
    subst h12
    obtain ⟨w13, hw13⟩ : ∃ w13, w8.alloc (.cells (encF y).toArray T_api_File) = w13 := ⟨_, rfl⟩
    have hfb : Fr (fun _ => False) w8 w13 := by rw [← hw13]; exact .alloc _ _ _
    have s13 := hfb.size
    refine ⟨w13, by rw [← hw13]; exact boxF_run w8 y, y.data, by rw [← hw13]; exact boxF_cell w8 y (.refl (fun _ => False) _) (by simp) (j := 1) rfl, fun w15 h15 => ?_⟩
    obtain ⟨w16, l17, hr16, op16, f16, s16⟩ := append_one' elStrZ (op.keep hfb (by simp)) (v := .string y.data) rfl (by unfold maxLen; omega) (by omega) (by omega) h15
    refine ⟨w16, l17, hr16, fun w18 h18 => ?_⟩
    have hs16 := f16.size
    have om16 := (om.keep hfb (by simp)).keep f16 fun q hq ⟨p, hp, e⟩ => hdis p q hp hq e.symm
    obtain ⟨w19, l20, hr19, om19, f19, s19⟩ := append_one' elIntZ om16 (v := .int .i64 0) rfl (by unfold maxLen; omega) (by omega) (by omega) h18
    have e1 : IntKind.i64.wrap ((k : Int) + 1) = ((k + 1 : Nat) : Int) := by rw [wrap_i64 (by omega) (by omega)]; omega
    rw [e1]
    have hd17 : ∀ p q, l17.a = some p → lm.a = some q → p.block ≠ q.block := fun p q hp hq => by
      rcases s16 p hp with ⟨z, hz, e⟩ | h
      · rw [← e]; exact hdis z q hz hq
      · have := (om.blk hq).2; omega
    refine ⟨w19, l20, hr19, ⟨k + 1, rfl, by omega, ?_, ?_, fun p q hp hq => ?_, ((hf.trans' hfb).trans f16 fun q hq ⟨z, hz, e⟩ => by have := (op.blk hz).1; omega).trans f19 fun q hq ⟨z, hz, e⟩ => by have := (om.blk hz).1; omega⟩, by dsimp only; omega⟩
    · rw [htk]
      unfold pakV
      rw [List.map_append, List.map_append]
      exact op16.keep f19 fun q hq ⟨z, hz, e⟩ => hd17 q z hq hz e
    · rw [htk]
      unfold metV
      rw [List.map_append, List.map_append]
      exact om19
    · rcases s19 q hq with ⟨z, hz, e⟩ | h
      · rw [← e]; exact hd17 p z hp hz
      · have := (op16.blk hp).2; omega
  · have hge := of_decide_eq_false hge
    have hk' : k = ys.length := by omega
    rw [hk', List.take_length] at op om
    have hlp : (pakV (ys.map stoZ)).length = ys.length := by unfold pakV; rw [List.length_map, List.length_map]
    have hlm : (metV (ys.map stoZ)).length = ys.length := by unfold metV; rw [List.length_map, List.length_map]
    refine (rarchive_spec (c := lm.a) (ca := c) (cb := lp.cap) (cc := lm.cap) (es := ys.map stoZ) (by rw [fil_sto]; exact hr.keep hf (by simp)) op.reads om.reads (by rw [List.length_map]; exact hn) (by rw [op.len, hlp, List.length_map]) (by rw [om.len, hlm, List.length_map]) (fun x hx' => ?_) (by rw [outZ_sto]; exact ho) (by rw [idxZ_sto]; exact hi) (by omega)).mono ?_
    · obtain ⟨y, hy, rfl⟩ := List.mem_map.1 hx'
      obtain ⟨h1, h2⟩ := hx y hy
      exact ⟨(by decide : 0 < 65536), h1, h1, h2⟩
    rintro e w22 ⟨rfl, f22⟩
    rw [arcZ_sto]
    exact ⟨_, rfl, rfl, hf.trans' f22⟩
def aw23 : List FileE := [⟨⟨#[97]⟩, ⟨#[104, 105]⟩⟩]
theorem aw23_chk : zchk aw23 = 0 := by kernel_rfl
theorem zipL_len (ys : List FileE) : (zipL ys).length = (outL ys).length + ((idxL 0 ys).length + 22) := by
  unfold zipL
  rw [List.length_append, List.length_append, endL_len]
theorem good_sto {ys : List FileE} (h0 : zchk ys = 0) (hs : (zipL ys).length ≤ 2097152) : GoodZ (ys.map stoZ) ⟨(zipL ys).toArray⟩ := by
  obtain ⟨h1, h2, h3⟩ := zchk_ok h0
  refine ⟨by rw [bs_mk, arcZ_sto], by rw [bs_mksize]; exact hs, by rw [fil_sto]; exact h0, fun x hx => ?_⟩
  obtain ⟨y, hy, rfl⟩ := List.mem_map.1 hx
  refine sto_unp ?_
  have : ∀ zs : List FileE, y ∈ zs → y.data.size ≤ totalF zs := fun zs => by
    induction zs with
    | nil => intro h; simp at h
    | cons z r ih =>
      intro h
      unfold totalF at *
      rw [List.map_cons, List.sum_cons]
      rcases List.mem_cons.1 h with rfl | h
      · omega
      · have := ih h; omega
  have := this ys hy
  omega
theorem zipL_le {ys : List FileE} (h0 : zchk ys = 0) : (zipL ys).length ≤ 1500000 := by
  obtain ⟨h1, h2, h3⟩ := zchk_ok h0
  have hp : ∀ y ∈ ys, y.path.size ≤ 200 := fun y hy => by
    have := h3 y hy
    unfold cleanB at this
    simp only [Bool.and_eq_true, decide_eq_true_eq] at this
    omega
  have a1 := outL_len (B := 200) ys hp
  have a2 := idxL_len (B := 200) 0 ys hp
  have a3 : ys.length * (30 + 200) ≤ 600 * 230 := Nat.mul_le_mul h1 (by omega)
  have a4 : ys.length * (46 + 200) ≤ 600 * 246 := Nat.mul_le_mul h1 (by omega)
  rw [zipL_len]; omega
theorem awake23_spec (w : World) : Calls Tryd.prog F_cartularylaw23_awake #[] w fun e w' => e = .returned (.bool true) ∧ Fr (fun _ => False) w w' := by
  refine vc_cartularylaw23_awake_ok (R := fun v w' => v = .bool true ∧ Fr (fun _ => False) w w') ?_ (fun v w' h => ⟨by rw [h.1], h.2⟩)
  intro w1 h1
  have key : ∀ (v v' : World), v' = v.alloc (.cells (encF ⟨⟨#[97]⟩, ⟨#[104, 105]⟩⟩).toArray T_api_File) → ReadsK encF 2 v' (some ⟨v.heap.size, 0, none⟩) aw23 := fun v v' h i y hi => by
    cases i with
    | zero =>
      simp only [aw23, List.getElem?_cons_zero, Option.some.injEq] at hi
      subst hi
      refine ⟨_, rfl, fun j u hv => ?_⟩
      rw [Nat.zero_mul, add_lit, add_lit, h, cell_blk (alloc_new v _), Nat.zero_add]; simpa using hv
    | succ i => simp [aw23] at hi
  have f1 : Fr (fun _ => False) w w1 := by rw [h1]; exact .alloc _ _ _
  refine (zwrite_spec (key w w1 h1) rfl (by decide) (by decide +kernel) (by decide +kernel)).mono ?_
  rintro e w3 ⟨rfl, f3⟩
  have hz : zipE aw23 = ⟨(zipL aw23).toArray⟩ := by unfold zipE; rw [if_pos aw23_chk]
  have hlen : (zipL aw23).length = 102 := by
    rw [zipL_len]
    simp only [aw23, outL, List.flatMap_cons, List.flatMap_nil, idxL, List.length_append, List.length_nil, locL_len, cenL_len]
    rfl
  rw [hz, aw23_chk]
  refine ⟨_, _, rfl, (zread_spec (good_sto aw23_chk (by omega)) w3).mono ?_⟩
  rintro e w7 ⟨l8, rfl, o7, f7⟩
  rw [fil_sto] at o7
  refine ⟨l8, 0, rfl, (zread_short (by decide) w7).mono ?_⟩
  rintro e w11 ⟨rfl, f11⟩
  refine ⟨⟨none, 0, 0⟩, 6, rfl, fun _ => ⟨fun _ => ⟨fun _ => ⟨fun _ w14 h14 => ?_, fun h => ?_⟩, fun h => absurd h (by decide)⟩, fun h => absurd h (by decide)⟩, fun h => absurd h (by decide)⟩
  · have f14 : Fr (fun _ => False) w11 w14 := by rw [h14]; exact .alloc _ _ _
    refine (rsame_spec (((o7.keep f11 (by simp)).keep f14 (by simp)).reads elF.len) (key w11 w14 h14) o7.1 rfl (by rw [← o7.1]; decide)).mono ?_
    rintro e w16 ⟨⟨r, rfl, hr⟩, d16⟩
    refine ⟨r, rfl, by rw [hr.2 rfl], (((((f1.trans' f3).trans' f7).trans' f11).trans' f14).trans' (.drew _ d16))⟩
  · rw [bs_mksize, hlen] at h; exact absurd h (by decide)
end Go.Proofs.YtfoeooddnmppnaaDoor

/- Formulas of 1 Go functions of this seat (written by a program of the author's, vcgen.py), and that each is enough for the call. No condition. -/
set_option linter.unusedVariables false
namespace Go.Proofs.YtfoeooddnmppnaaDoor
open Go Vc Go.Proofs
set_option maxRecDepth 100000
/-- cartularylaw01.Few -/
def vc_cartularylaw01_Few (x0 : ByteArray) (x1 : Int) (w : World) (R : Value → World → Prop) : Prop :=
  (((decide ((↑(ByteArray.size x0) : Int) > x1) = true →
     ((0 ≤ x1 ∧
       x1 ≤ (↑(ByteArray.size x0) : Int)) ∧
      R (Value.string (ByteArray.extract x0 0 (Int.toNat x1))) w))) ∧
   (decide ((↑(ByteArray.size x0) : Int) > x1) = false →
     R (Value.string x0) w))
theorem vc_cartularylaw01_Few_ok {x0 : ByteArray} {x1 : Int} {w : World} {R : Value → World → Prop} {R' : Ending → World → Prop} (h : vc_cartularylaw01_Few x0 x1 w R) (hR : ∀ v w', R v w' → R' (.returned v) w') :
    Calls Tryd.prog 20 #[.string x0, .int .i64 x1] w R' :=
  calls_of_body (vs := [(.string x0, false), (.int .i64 x1, false)]) (ty := ty) (ann := ⟨[], [], [], []⟩) (c := Tryd.f20.body.getD .skip) (by kernel_rfl) Tryd.func20 (by kernel_rfl) (by kernel_rfl) (Eq.mp (by kernel_rfl) h) hR
end Go.Proofs.YtfoeooddnmppnaaDoor

/- The law's Few of a text. No condition. -/
set_option linter.unusedVariables false
namespace Go.Proofs.YtfoeooddnmppnaaDoor
open Go Vc Go.Proofs

theorem fewS_spec (s : ByteArray) (n : Nat) (w : World) : Calls Tryd.prog F_cartularylaw01_Few #[.string s, .int .i64 n] w fun e w' => e = .returned (.string (if s.size > n then s.extract 0 n else s)) ∧ w' = w := by
  refine vc_cartularylaw01_Few_ok (R := fun v w' => v = .string (if s.size > n then s.extract 0 n else s) ∧ w' = w) ?_ (fun v w' h => ⟨by rw [h.1], h.2⟩)
  refine ⟨fun h => ?_, fun h => ?_⟩
  · have h := of_decide_eq_true h
    rw [if_pos (by omega)]
    exact ⟨⟨by omega, by omega⟩, by simp, rfl⟩
  · have h := of_decide_eq_false h
    rw [if_neg (by omega)]
    exact ⟨rfl, rfl⟩
theorem fewS_len (s : ByteArray) (n : Nat) : (if s.size > n then s.extract 0 n else s).size ≤ n := by
  split
  · simp; omega
  · omega
end Go.Proofs.YtfoeooddnmppnaaDoor

/- Formulas of 2 Go functions of this seat (written by a program of the author's, vcgen.py), and that each is enough for the call. No condition. -/
set_option linter.unusedVariables false
namespace Go.Proofs.YtfoeooddnmppnaaDoor
open Go Vc Go.Proofs
set_option maxRecDepth 100000
/-- cartularylaw07.Few -/
def vc_cartularylaw07_Few (x0a : Option Addr) (x0n : Nat) (x0c : Nat) (x1 : Int) (w : World) (R : Value → World → Prop) : Prop :=
  (((decide ((↑x0n : Int) > x1) = true →
     ((0 ≤ x1 ∧
       x1 ≤ (↑x0c : Int)) ∧
      ∀ w1 : World,
      (w1 = World.alloc w (Obj.cells (Array.mk []) 37) →
        ∃ w2 : World, ∃ l3 : Sl, (Sem.run Tryd.prog (Builtin.append_ (Array.mk [22, 22]) 22 (Array.mk [Value.slice (some (Addr.mk (Array.size (World.heap w)) 0 none)) 0 0, Value.slice (subA x0a x0c 0 2) (Int.toNat x1) x0c])) w1 = Result.ok (Value.slice l3.1 l3.2 l3.3) w2 ∧
         R (Value.slice l3.1 l3.2 l3.3) w2))))) ∧
   (decide ((↑x0n : Int) > x1) = false →
     ∀ w4 : World,
     (w4 = World.alloc w (Obj.cells (Array.mk []) 37) →
       ∃ w5 : World, ∃ l6 : Sl, (Sem.run Tryd.prog (Builtin.append_ (Array.mk [22, 22]) 22 (Array.mk [Value.slice (some (Addr.mk (Array.size (World.heap w)) 0 none)) 0 0, Value.slice x0a x0n x0c])) w4 = Result.ok (Value.slice l6.1 l6.2 l6.3) w5 ∧
        R (Value.slice l6.1 l6.2 l6.3) w5))))
theorem vc_cartularylaw07_Few_ok {x0a : Option Addr} {x0n : Nat} {x0c : Nat} {x1 : Int} {w : World} {R : Value → World → Prop} {R' : Ending → World → Prop} (h : vc_cartularylaw07_Few x0a x0n x0c x1 w R) (hR : ∀ v w', R v w' → R' (.returned v) w') :
    Calls Tryd.prog 31 #[.slice x0a x0n x0c, .int .i64 x1] w R' :=
  calls_of_body (vs := [(.slice x0a x0n x0c, false), (.int .i64 x1, false)]) (ty := ty) (ann := ⟨[], [], [], []⟩) (c := Tryd.f31.body.getD .skip) (by kernel_rfl) Tryd.func31 (by kernel_rfl) (by kernel_rfl) (Eq.mp (by kernel_rfl) h) hR
/-- cartularylaw09.Short -/
def vc_cartularylaw09_Short (x0a : Option Addr) (x0n : Nat) (x0c : Nat) (x1 : Int) (w : World) (R : Value → World → Prop) : Prop :=
  Calls Tryd.prog (31 : Nat) (Array.mk [Value.slice x0a x0n x0c, Value.int IntKind.i64 x1]) (w) (fun e1 w2 =>
    ∃ l3 : Sl, (e1 = Ending.returned (Value.slice l3.1 l3.2 l3.3) ∧
     ∃ I4 : Int → World → Prop, ∃ I5 : Int → World → Nat, (I4 0 w2 ∧
      ∀ n6 : Int,
      ∀ w7 : World,
      (I4 n6 w7 →
        (((decide (n6 < (↑l3.2 : Int)) = true →
           ((0 ≤ n6 ∧
             n6 < (↑l3.2 : Int)) ∧
            ∃ a8 : Addr, (l3.1 = some a8 ∧
             ∃ s9 : ByteArray, (World.cell? w7 (Addr.add (Addr.add a8 (Int.toNat n6 * 2)) 1) = some (Value.string s9) ∧
              Calls Tryd.prog (20 : Nat) (Array.mk [Value.string s9, Value.int IntKind.i64 400]) (w7) (fun e10 w11 =>
                ∃ s12 : ByteArray, (e10 = Ending.returned (Value.string s12) ∧
                 ((0 ≤ n6 ∧
                   n6 < (↑l3.2 : Int)) ∧
                  ∃ a13 : Addr, (l3.1 = some a13 ∧
                   (Wr w11 (Addr.add (Addr.add a13 (Int.toNat n6 * 2)) 1) ∧
                    ∀ w14 : World,
                    (w14 = World.setCell w11 (Addr.add (Addr.add a13 (Int.toNat n6 * 2)) 1) (Value.string s12) →
                      (I4 (IntKind.wrap IntKind.i64 (n6 + 1)) w14 ∧
                       I5 (IntKind.wrap IntKind.i64 (n6 + 1)) w14 < I5 n6 w7)))))))))))) ∧
         (decide (n6 < (↑l3.2 : Int)) = false →
           R (Value.slice l3.1 l3.2 l3.3) w7))))))
theorem vc_cartularylaw09_Short_ok {x0a : Option Addr} {x0n : Nat} {x0c : Nat} {x1 : Int} {w : World} {R : Value → World → Prop} {R' : Ending → World → Prop} (h : vc_cartularylaw09_Short x0a x0n x0c x1 w R) (hR : ∀ v w', R v w' → R' (.returned v) w') :
    Calls Tryd.prog 12 #[.slice x0a x0n x0c, .int .i64 x1] w R' :=
  calls_of_body (vs := [(.slice x0a x0n x0c, false), (.int .i64 x1, false)]) (ty := ty) (ann := ⟨[], [(3, [(12, .int .i64)])], [], []⟩) (c := Tryd.f12.body.getD .skip) (by kernel_rfl) Tryd.func12 (by kernel_rfl) (by kernel_rfl) (Eq.mp (by kernel_rfl) h) hR
end Go.Proofs.YtfoeooddnmppnaaDoor

/- The laws' Few (of chapter 7) and Short (of chapter 9) of files. Conditions: texts are no longer than memory. -/
set_option linter.unusedVariables false
namespace Go.Proofs.YtfoeooddnmppnaaDoor
open Go Vc Go.Proofs

theorem few07_spec {w : World} {a : Option Addr} {n c : Nat} {xs : List FileE} (hr : ReadsK encF 2 w a xs) (hn : xs.length = n) (hc : n ≤ c) (m : Nat) (hm : m ≤ 1000000) : Calls Tryd.prog F_cartularylaw07_Few #[.slice a n c, .int .i64 m] w fun e w' =>
    ∃ l, e = .returned (.slice l.a l.len l.cap) ∧ OwnK encF 2 w' w.heap.size T_api_File l (xs.take m) ∧ Fr (fun _ => False) w w' := by
  refine vc_cartularylaw07_Few_ok (R := fun v w' => ∃ l : Sl, v = .slice l.a l.len l.cap ∧ OwnK encF 2 w' w.heap.size T_api_File l (xs.take m) ∧ Fr (fun _ => False) w w') ?_ (fun v w' ⟨l, h⟩ => ⟨l, by rw [h.1], h.2⟩)
  have key : ∀ (src : Option Addr) (k c' : Nat), ReadsK encF 2 w src (xs.take m) → (xs.take m).length = k → ∀ w1, w1 = w.alloc (.cells #[] T_api_File) →
      ∃ (w2 : World) (l3 : Sl), (Builtin.append_ #[T_S_api_File, T_S_api_File] T_S_api_File #[.slice (some ⟨w.heap.size, 0, none⟩) 0 0, .slice src k c']).run Tryd.prog w1 = .ok (.slice l3.a l3.len l3.cap) w2 ∧ ∃ l : Sl, Value.slice l3.a l3.len l3.cap = .slice l.a l.len l.cap ∧ OwnK encF 2 w2 w.heap.size T_api_File l (xs.take m) ∧ Fr (fun _ => False) w w2 := fun src k c' hr hk w1 h1 => by
    have hml : (xs.take m).length ≤ 1000000 := by rw [List.length_take]; omega
    have hf1 : Fr (fun _ => False) w w1 := by rw [h1]; exact .alloc _ _ _
    have ho1 : OwnK encF 2 w1 w.heap.size T_api_File ⟨some ⟨w.heap.size, 0, none⟩, 0, 0⟩ [] := by rw [h1]; exact .empty w T_api_File
    obtain ⟨w2, l3, hr2, ho2, hf2⟩ := append_allK elF ho1 c' (hr.keep hf1 (by simp)) (by simp only [List.length_nil, maxLen]; omega) (by simp only [List.length_nil]; omega) hf1.size hk
    exact ⟨w2, l3, hr2, l3, rfl, ho2, hf1.trans hf2 fun q hq ⟨y, hy, e⟩ => by cases hy; simp only at e; omega⟩
  refine ⟨fun h => ⟨⟨by omega, by have := of_decide_eq_true h; omega⟩, fun w1 h1 => ?_⟩, fun h w4 h4 => ?_⟩
  · have h := of_decide_eq_true h
    rw [Int.toNat_natCast]
    have hs := hr.sub (cap := c) (by omega) 0
    rw [List.drop_zero] at hs
    exact key _ _ _ (hs.take m) (by rw [List.length_take]; omega) w1 h1
  · have h := of_decide_eq_false h
    rw [List.take_of_length_le (by omega)] at key ⊢
    exact key _ _ _ hr hn w4 h4
def fewB (s : ByteArray) (n : Nat) : ByteArray := if s.size > n then s.extract 0 n else s
theorem fewB_size (s : ByteArray) (n : Nat) : (fewB s n).size ≤ n ∧ (fewB s n).size ≤ s.size := by
  unfold fewB
  split
  · rw [ByteArray.size_extract]; omega
  · omega
def cutF (n : Nat) (x : FileE) : FileE := ⟨x.path, fewB x.data n⟩
def shortF (xs : List FileE) (m : Nat) : List FileE := (xs.take m).map (cutF 400)
theorem short09_spec {w : World} {a : Option Addr} {n c : Nat} {xs : List FileE} (hr : ReadsK encF 2 w a xs) (hn : xs.length = n) (hc : n ≤ c) (m : Nat) (hm : m ≤ 1000000) : Calls Tryd.prog F_cartularylaw09_Short #[.slice a n c, .int .i64 m] w fun e w' =>
    ∃ l, e = .returned (.slice l.a l.len l.cap) ∧ OwnK encF 2 w' w.heap.size T_api_File l (shortF xs m) ∧ Fr (fun _ => False) w w' := by
  refine vc_cartularylaw09_Short_ok (R := fun v w' => ∃ l : Sl, v = .slice l.a l.len l.cap ∧ OwnK encF 2 w' w.heap.size T_api_File l (shortF xs m) ∧ Fr (fun _ => False) w w') ?_ (fun v w' ⟨l, h⟩ => ⟨l, by rw [h.1], h.2⟩)
  refine (few07_spec hr hn hc m hm).mono ?_
  rintro e w2 ⟨l, rfl, ho, hf2⟩
  have hl := ho.len
  have hml : (xs.take m).length ≤ 1000000 := by rw [List.length_take]; omega
  unfold shortF
  generalize xs.take m = ys at ho hl hml
  refine ⟨l, rfl, fun i w' => ∃ k : Nat, i = k ∧ k ≤ ys.length ∧ OwnK encF 2 w' w.heap.size T_api_File l ((ys.take k).map (cutF 400) ++ ys.drop k) ∧ Fr (fun _ => False) w w', fun i _ => ys.length - i.toNat, ⟨0, rfl, Nat.zero_le _, by simpa using ho, hf2⟩, ?_⟩
  clear ho
  rintro i w7 ⟨k, rfl, hk, ho, hf⟩
  have e1 : IntKind.i64.wrap ((k : Int) + 1) = ((k + 1 : Nat) : Int) := by rw [wrap_i64 (by omega) (by omega)]; omega
  rw [e1]
  refine ⟨fun hlt => ?_, fun hge => ?_⟩
  · have hlt := of_decide_eq_true hlt
    have hkl : k < ys.length := by omega
    have hx : ys[k]? = some ys[k] := List.getElem?_eq_getElem hkl
    have hdr : ys.drop k = ys[k] :: ys.drop (k + 1) := List.drop_eq_getElem_cons hkl
    generalize ys[k] = x at hx hdr
    have htl : ((ys.take k).map (cutF 400)).length = k := by rw [List.length_map, List.length_take]; omega
    have hxk : ((ys.take k).map (cutF 400) ++ ys.drop k)[k]? = some x := by rw [List.getElem?_append_right (by omega), htl, Nat.sub_self, hdr]; rfl
    obtain ⟨ad, had, hrd⟩ := (ho.reads fun _ => rfl) k x hxk
    have hrd1 := hrd 1 (.string x.data) rfl
    refine ⟨⟨by omega, by omega⟩, ad, had, x.data, by rw [Int.toNat_natCast]; exact hrd1, (fewS_spec x.data 400 w7).mono ?_⟩
    rintro e w11 ⟨rfl, hw⟩
    replace hw := hw.symm
    subst hw
    obtain ⟨ad', had', hwr, ho', hf'⟩ := OwnK.setField (enc := encF) (k := 2) (fun _ => rfl) ho (i := k) (j := 1) (x := x) (y := cutF 400 x) (v := .string (fewB x.data 400)) hxk (show 1 < 2 by decide) rfl
    rw [had] at had'; cases had'
    refine ⟨_, rfl, ⟨by omega, by omega⟩, ad, had, by rw [Int.toNat_natCast]; exact hwr, fun w14 h14 => ?_⟩
    rw [Int.toNat_natCast] at h14
    change w14 = w7.setCell _ (.string (fewB x.data 400)) at h14
    subst h14
    refine ⟨⟨k + 1, rfl, by omega, ?_, hf.trans hf' fun q hq ⟨y, hy, e⟩ => by have := (ho.blk hy).1; omega⟩, by dsimp only; omega⟩
    have hset : ((ys.take k).map (cutF 400) ++ ys.drop k).set k (cutF 400 x) = (ys.take (k + 1)).map (cutF 400) ++ ys.drop (k + 1) := by
      rw [List.set_append_right _ _ (by omega), htl, Nat.sub_self, hdr, List.set_cons_zero, List.take_add_one, hx, List.map_append, List.append_assoc]
      rfl
    rw [← hset]; exact ho'
  · have hge := of_decide_eq_false hge
    have hk' : k = ys.length := by omega
    rw [hk', List.take_length, List.drop_length, List.append_nil] at ho
    exact ⟨l, rfl, ho, hf⟩
end Go.Proofs.YtfoeooddnmppnaaDoor

/- ZipWrites: files are archived with the bytes that APPNOTE says, and read back. Conditions: what comes in is within the reach. -/
set_option linter.unusedVariables false
namespace Go.Proofs.YtfoeooddnmppnaaDoor
open Go Vc SumM Go.Proofs

theorem shortF_szZ {xs : List FileE} {m N : Nat} (hb : ∀ x ∈ xs, x.path.size ≤ N ∧ x.data.size ≤ N) : (shortF xs m).length ≤ m ∧ ∀ x ∈ shortF xs m, x.path.size ≤ N ∧ x.data.size ≤ 400 := by
  refine ⟨by unfold shortF; rw [List.length_map, List.length_take]; omega, fun x hx => ?_⟩
  obtain ⟨y, hy, rfl⟩ := List.mem_map.1 hx
  exact ⟨(hb y (List.mem_of_mem_take hy)).1, (fewB_size _ _).1⟩
theorem totalF_small {B : Nat} : ∀ ys : List FileE, (∀ y ∈ ys, y.data.size ≤ B) → totalF ys ≤ ys.length * B
  | [], _ => Nat.zero_le _
  | y :: r, h => by
    have ih := totalF_small r fun z hz => h z (List.mem_cons_of_mem _ hz)
    have h1 := h y List.mem_cons_self
    unfold totalF at *
    rw [List.map_cons, List.sum_cons, List.length_cons, Nat.succ_mul]; omega
theorem zipWrites_walk {a : Option Addr} {n c : Nat} {W : World} {xs : List FileE} (hr : ReadsK encF 2 W a xs) (hn : xs.length = n) (hc : n ≤ c) (hb : ∀ x ∈ xs, x.path.size ≤ reachBytes ∧ x.data.size ≤ reachBytes) :
    Calls Tryd.prog F_cartularylaw23_ZipWrites #[.slice a n c] W fun e w' => e = .returned (.bool true) ∧ RowKit.Below W.heap.size W w' := by
  refine vc_cartularylaw23_ZipWrites_ok (R := fun u w' => u = .bool true ∧ Fr (fun _ => False) W w') ?_ (fun u w' h => ⟨by rw [h.1], (h.2.mono fun _ _ h => h.elim : Fr (fun k => W.heap.size ≤ k) W w').below (Nat.le_refl _)⟩)
  have hrb : reachBytes ≤ 140737488355328 := by decide
  obtain ⟨hl40, hsz⟩ := shortF_szZ (m := 40) hb
  refine (short09_spec hr hn hc 40 (by decide)).mono ?_
  rintro e w2 ⟨l3, rfl, o2, f2⟩
  have hsh2 := fun (w' : World) (h : Fr (fun _ => False) W w') => short09_spec (hr.keep h (by simp)) hn hc 40 (by decide)
  generalize hzs : shortF xs 40 = zs at *
  have hzn := o2.1
  have htot : totalF zs ≤ 16000 := Nat.le_trans (totalF_small (B := 400) zs fun y hy => (hsz y hy).2) (by omega)
  have hp : ∀ y ∈ zs, y.path.size ≤ 140737488355328 := fun y hy => Nat.le_trans (hsz y hy).1 hrb
  have hrd : ∀ {w' : World}, Fr (fun _ => False) w2 w' → ReadsK encF 2 w' l3.a zs := fun h => (o2.keep h (by simp)).reads elF.len
  refine ⟨l3, rfl, (zwrite_spec (hrd (.refl _ _)) hzn (by omega) hp (by omega)).mono ?_⟩
  rintro e w5 ⟨rfl, f5⟩
  refine ⟨_, _, rfl, (rcheck_spec (hrd f5) hzn (by omega) hp (by omega)).mono ?_⟩
  rintro e w9 ⟨rfl, f9⟩
  have g9 := f5.trans' f9
  refine ⟨_, rfl, (awake23_spec w9).mono ?_⟩
  rintro e w12 ⟨rfl, f12⟩
  have g12 := g9.trans' f12
  refine ⟨true, rfl, fun h => (by cases h), fun _ => ⟨fun h => by simp at h, fun _ => (zcheck_spec (hrd g12) hzn (by omega) hp (by omega)).mono ?_⟩⟩
  rintro e w15 ⟨rfl, f15⟩
  have g15 := g12.trans' f15
  refine ⟨_, rfl, fun h => by simp at h, fun _ => (hsh2 w15 (f2.trans' g15)).mono ?_⟩
  rintro e w18 ⟨l19, rfl, o18, f18⟩
  have g18 := g15.trans' f18
  have h19 := o18.1
  refine ⟨l19, rfl, (rsame_spec (hrd g18) (o18.reads elF.len) hzn h19 (by omega)).mono ?_⟩
  rintro e w21 ⟨⟨r, rfl, hr21⟩, d21⟩
  have g21 := g18.trans' (.drew _ d21)
  have hrt := hr21.2 rfl
  refine ⟨r, rfl, fun h => (by rw [hrt] at h; cases h), fun _ => ⟨fun h => ?_, fun h => ?_⟩⟩
  · have hne : ¬ zchk zs = 0 := by simpa using h
    refine ⟨?_, f2.trans' g21⟩
    unfold zipE
    rw [if_neg hne, bs_eq, decide_eq_true rfl]
  · have h0 : zchk zs = 0 := by simpa using h
    have hz : zipE zs = ⟨(zipL zs).toArray⟩ := by unfold zipE; rw [if_pos h0]
    have hle := zipL_le h0
    have hl2 := zipL_len zs
    rw [hz]
    refine (zread_spec (good_sto h0 (by omega)) w21).mono ?_
    rintro e w24 ⟨l25, rfl, o24, f24⟩
    rw [fil_sto] at o24
    have g24 := g21.trans' f24
    have hcl := (zchk_ok h0).2.2
    refine ⟨l25, 0, rfl, fun _ => ?_, fun h => absurd h (by decide)⟩
    refine (rtext_spec (hrd g24) hzn (fun y hy => ⟨by have := (hsz y hy).2; omega, ?_⟩) (by omega) (by omega) (by omega)).mono ?_
    · have := hcl y hy
      unfold cleanB at this
      simp only [Bool.and_eq_true, decide_eq_true_eq] at this
      omega
    rintro e w28 ⟨rfl, f28⟩
    have g28 := g24.trans' f28
    refine ⟨_, rfl, fun _ => (rsame_spec ((o24.keep f28 (by simp)).reads elF.len) (hrd g28) o24.1 hzn (by rw [← o24.1]; omega)).mono ?_, fun h => by rw [bs_eq] at h; simp at h⟩
    rintro e w31 ⟨⟨r, rfl, hr31⟩, d31⟩
    exact ⟨r, rfl, by rw [hr31.2 rfl], f2.trans' (g28.trans' (.drew _ d31))⟩
end Go.Proofs.YtfoeooddnmppnaaDoor

/- Slices of structs that came in, opened to cells. No condition: for all programs. -/
set_option linter.unusedVariables false
namespace Vc
open Go Go.ChangeShapes Go.WideShapes Go.Deep
section
variable {H : Type} {enc : TypeId × Value → H} {P : Program} {w : World} {base : Nat} {spare : Nat → Bool} {held : Bool}
/-- What the fields of an element say, its cells say. -/
def FieldsSay (enc : TypeId × Value → H) (P : Program) (w : World) (base : Nat) (spare : Nat → Bool) (held : Bool) (fs : Array Field) (Q : List Value → Prop) : Prop :=
  ∀ n (cs : List Value), cs.length = fs.size → (∀ (j : Nat) (f : Field) (v : Value), fs[j]? = some f → cs[j]? = some v → ∃ y, DataW.trod enc P w base spare held n f.type [v] = some y) → Q cs
theorem open_rows {t e : TypeId} {fs : Array Field} {fuel : Nat} {a : Option Addr} {len cap : Nat} {x : DataW H × List MemPlace} {Q : List Value → Prop} (ht : P.underlying t = some (.slice e)) (he : P.underlying e = some (.struct fs))
    (hone : oneCellFields P fs = true) (hC : P.cellsOf e = fs.size) (hQ : FieldsSay enc P w base spare held fs Q) (h : DataW.trod enc P w base spare held fuel t [.slice a len cap] = some x) : IsRows fs.size Q w a len := by
  intro i hi
  rcases open_slice ht h with ⟨h0, _⟩ | ⟨b, l, c, m, n, D, Pl, hcs, hb, hl, hm, hmm, hx, hi'⟩
  · simp only [List.cons.injEq, Value.slice.injEq] at h0; omega
  · simp only [List.cons.injEq, Value.slice.injEq, and_true] at hcs
    obtain ⟨rfl, rfl, rfl⟩ := hcs
    obtain ⟨cs, hc, htr⟩ := hi' i (by rw [hmm]; split <;> omega)
    obtain ⟨ys, n', _, _, hlen, hyl, hf⟩ := DataW.trod_struct he htr
    obtain ⟨_, hcl, hat⟩ := World.cells?_some hc
    rw [hC] at hcl hat
    refine ⟨b, cs, rfl, hcl, hQ n' cs hcl ?_, ?_⟩
    · intro j f v hj hv
      obtain ⟨ho, hk⟩ := hone_of hone j f hj
      have hjl : j < fs.size := (Array.getElem?_eq_some_iff.1 hj).1
      have h1 := hf j f hj
      have h2 : (cs.drop j).take 1 = [v] := by
        obtain ⟨hjl', hv'⟩ := List.getElem?_eq_some_iff.1 hv
        rw [List.drop_eq_getElem_cons hjl', hv']; rfl
      rw [ho, hk, h2, List.getElem?_eq_getElem (show j < ys.length by omega)] at h1
      exact ⟨_, h1⟩
    · intro j v hv
      have hjl := (List.getElem?_eq_some_iff.1 hv).1
      rw [← hv, ← hat j (by omega), add_add]
/-- As above, and what was read takes no more bytes than memory has. -/
def FieldsSayW (enc : TypeId × Value → H) (P : Program) (w : World) (base : Nat) (spare : Nat → Bool) (held : Bool) (fs : Array Field) (Q : List Value → Prop) : Prop :=
  ∀ n (cs : List Value), cs.length = fs.size → (∀ (j : Nat) (f : Field) (v : Value), fs[j]? = some f → cs[j]? = some v → ∃ y, DataW.trod enc P w base spare held n f.type [v] = some y ∧ (y.1.weights P f.type).all (· ≤ reachBytes) = true) → Q cs
theorem weightsAll_mem {e : TypeId} : ∀ {ds : List (DataW H)} {d : DataW H}, d ∈ ds → ∀ n ∈ d.weights P e, n ∈ DataW.weightsAll P e ds
  | d0 :: ds, d, h, n, hn => by
    simp only [DataW.weightsAll, List.mem_append]
    rcases List.mem_cons.1 h with rfl | h
    · exact .inl hn
    · exact .inr (weightsAll_mem h n hn)
theorem open_rowsW {t e : TypeId} {fs : Array Field} {fuel : Nat} {a : Option Addr} {len cap : Nat} {x : DataW H × List MemPlace} {Q : List Value → Prop} (ht : P.underlying t = some (.slice e)) (he : P.underlying e = some (.struct fs))
    (hone : oneCellFields P fs = true) (hC : P.cellsOf e = fs.size) (hsz : (x.1.weights P t).all (· ≤ reachBytes) = true) (hQ : FieldsSayW enc P w base spare held fs Q) (h : DataW.trod enc P w base spare held fuel t [.slice a len cap] = some x) : IsRows fs.size Q w a len ∧ len ≤ cap := by
  rcases open_slice ht h with ⟨h0, _⟩ | ⟨b, l, c, m, n, D, Pl, hcs, hb, hl, hm, hmm, hx, hi'⟩
  · simp only [List.cons.injEq, Value.slice.injEq, and_true] at h0
    exact ⟨fun i hi => by omega, by omega⟩
  · simp only [List.cons.injEq, Value.slice.injEq, and_true] at hcs
    obtain ⟨rfl, rfl, rfl⟩ := hcs
    refine ⟨fun i hi => ?_, hl⟩
    obtain ⟨cs, hc, htr⟩ := hi' i (by rw [hmm]; split <;> omega)
    have hwD : ((D i).weights P e).all (· ≤ reachBytes) = true := by
      rw [List.all_eq_true] at hsz ⊢
      intro q hq
      refine hsz q ?_
      rw [hx]
      simp only [DataW.weights, ht, List.mem_cons, List.mem_append]
      exact .inr (.inl (weightsAll_mem (List.mem_map.2 ⟨i, List.mem_range.2 hi, rfl⟩) q hq))
    obtain ⟨ys, n', _, hxe, hlen, hyl, hf⟩ := DataW.trod_struct he htr
    obtain ⟨_, hcl, hat⟩ := World.cells?_some hc
    rw [hC] at hcl hat
    refine ⟨b, cs, rfl, hcl, hQ n' cs hcl ?_, ?_⟩
    · intro j f v hj hv
      obtain ⟨ho, hk⟩ := hone_of hone j f hj
      have hjl : j < fs.size := (Array.getElem?_eq_some_iff.1 hj).1
      have h1 := hf j f hj
      have h2 : (cs.drop j).take 1 = [v] := by
        obtain ⟨hjl', hv'⟩ := List.getElem?_eq_some_iff.1 hv
        rw [List.drop_eq_getElem_cons hjl', hv']; rfl
      rw [ho, hk, h2, List.getElem?_eq_getElem (show j < ys.length by omega)] at h1
      refine ⟨_, h1, ?_⟩
      have hDe : D i = .agg (ys.map (·.1)) := by
        have := congrArg Prod.fst hxe
        simpa using this
      rw [hDe] at hwD
      simp only [DataW.weights, he] at hwD
      rw [List.all_eq_true] at hwD ⊢
      intro q hq
      refine hwD q (DataW.weights_mem_each (j := j) (t := f.type) (d := (ys[j]'(by omega)).1) ?_ ?_ q hq)
      · rw [List.getElem?_map, Array.getElem?_toList, hj]; rfl
      · rw [List.getElem?_map, List.getElem?_eq_getElem (show j < ys.length by omega)]; rfl
    · intro j v hv
      have hjl := (List.getElem?_eq_some_iff.1 hv).1
      rw [← hv, ← hat j (by omega), add_add]
/-- A slice of one-celled elements: what an element says, its cell says. -/
theorem open_cells {t e : TypeId} {fuel : Nat} {a : Option Addr} {len cap : Nat} {x : DataW H × List MemPlace} {Q : List Value → Prop} (ht : P.underlying t = some (.slice e)) (hC : P.cellsOf e = 1)
    (hQ : ∀ n v y, DataW.trod enc P w base spare held n e [v] = some y → Q [v]) (h : DataW.trod enc P w base spare held fuel t [.slice a len cap] = some x) : IsRows 1 Q w a len := by
  intro i hi
  rcases open_slice ht h with ⟨h0, _⟩ | ⟨b, l, c, m, n, D, Pl, hcs, hb, hl, hm, hmm, hx, hi'⟩
  · simp only [List.cons.injEq, Value.slice.injEq] at h0; omega
  · simp only [List.cons.injEq, Value.slice.injEq, and_true] at hcs
    obtain ⟨rfl, rfl, rfl⟩ := hcs
    obtain ⟨cs, hc, htr⟩ := hi' i (by rw [hmm]; split <;> omega)
    obtain ⟨_, hcl, hat⟩ := World.cells?_some hc
    rw [hC] at hcl hat
    obtain ⟨v, rfl⟩ : ∃ v, cs = [v] := List.length_eq_one_iff.1 hcl
    refine ⟨b, [v], rfl, rfl, hQ _ v _ htr, ?_⟩
    intro j u hu
    have hjl := (List.getElem?_eq_some_iff.1 hu).1
    rw [← hu, ← hat j hjl, add_add]
end
end Vc

/- The files that came in, as a list. No condition. -/
set_option linter.unusedVariables false
namespace Go.Proofs.YtfoeooddnmppnaaDoor
open Go Vc Go.Proofs Go.RowKit

theorem files_of {W : World} {a : Option Addr} : ∀ (n : Nat), IsRows 2 (fun vs => ∃ x0 x1, vs = [.string x0, .string x1] ∧ x0.size ≤ reachBytes ∧ x1.size ≤ reachBytes) W a n → ∃ xs : List FileE, xs.length = n ∧ ReadsK encF 2 W a xs ∧ (∀ x ∈ xs, x.path.size ≤ reachBytes ∧ x.data.size ≤ reachBytes)
  | 0, _ => ⟨[], rfl, .nil _ _, fun x hx => by simp at hx⟩
  | n + 1, h => by
    obtain ⟨xs, hE, hR, hB⟩ := files_of n fun i hi => h i (by omega)
    obtain ⟨ad, vs, had, hl, ⟨x0, x1, rfl, h1, h2⟩, hc⟩ := h n (by omega)
    refine ⟨xs ++ [⟨x0, x1⟩], by rw [List.length_append, hE]; rfl, fun i x hx => ?_, fun x hx => ?_⟩
    · by_cases hi : i < xs.length
      · rw [List.getElem?_append_left hi] at hx
        exact hR i x hx
      · rw [List.getElem?_append_right (by omega)] at hx
        have hi0 : i - xs.length = 0 := by
          by_cases h : i - xs.length = 0
          · exact h
          · rw [List.getElem?_eq_none (by simp; omega)] at hx; cases hx
        rw [hi0] at hx
        simp only [List.getElem?_cons_zero, Option.some.injEq] at hx
        subst hx
        refine ⟨ad, had, fun j v hv => ?_⟩
        have := hc j v hv
        rw [add_add, show i = n by omega]
        exact this
    · rcases List.mem_append.1 hx with hx | hx
      · exact hB x hx
      · simp only [List.mem_cons, List.mem_nil_iff, or_false] at hx
        subst hx; exact ⟨h1, h2⟩
end Go.Proofs.YtfoeooddnmppnaaDoor

/- The statement ZipWritesSaid of this seat: for every input the law returns true and its arguments read as they did. No condition. -/
namespace Go.Proofs.YtfoeooddnmppnaaDoor.zipWrites
open Go.ChangeShapes Go.WideShapes Go.ChangeAt Go.RowKit
open Go.ChangeMaps (open_string shut_string)
set_option linter.unusedVariables false

theorem own : ownKnob Tryd.prog.godebug = none := by kernel_rfl
theorem laidOut : laidOutB Tryd.prog = true := by kernel_rfl

set_option maxRecDepth 100000 in
theorem lifted (os : Os) (started : os.Started) (H : Type) (enc : TypeId × Value → H) :
    ReturnsInHanded {} Tryd.checked os 3 .any (fun w args => (Rows.zipWritesSpec.pre enc Tryd.prog Tryd.f3 [] false w args ∧ laidMetH Tryd.prog Rows.zipWritesRow.laid w) ∧ sizedMet enc Tryd.prog Tryd.f3 (OpenSpec.ofChange Rows.zipWritesSpec) false w args)
      (Rows.zipWritesSpec.post enc Tryd.prog Tryd.f3 false true false false) := by
  refine returnsInHanded_of_change_and (C := Tryd.checked) (X := fun w _ => laidMetH Tryd.prog Rows.zipWritesRow.laid w) (fun _ _ _ hh h => h.of_heap hh) own started (by kernel_rfl) Tryd.func3
    (ChangeSpec.witness_shaped (enc := enc) (C := Tryd.checked) (os := os) (X := fun w _ => laidMetH Tryd.prog Rows.zipWritesRow.laid w) false (World.laidAll Tryd.prog os Rows.zipWritesRow.laid) #[.slice none 0 0] 8 (World.laidAll_os _ _ _)
      (World.shaped_of_ZipB (by kernel_rfl) (by kernel_rfl)) (by kernel_rfl) (by kernel_rfl) (by kernel_rfl)
      (by rw [MakeChecks.laidMetH_plain _ _ _ (by kernel_rfl)]; exact laidMet_laidAll _ (by kernel_rfl) (by kernel_rfl))) ?_
  intro W base args ds gs before hval0 hW _ hsz hL _
  have hval : ∀ (j : Nat) t v, Tryd.f3.params[j]? = some t → args[j]? = some v → Value.okWide Tryd.prog W .any base t v := hval0
  have hW' := hW
  obtain ⟨p, q, hA0, hV, rfl, hfz, hnd⟩ := hW
  have hA : DataW.TrodAll enc Tryd.prog W 0 (fun _ => true) true Tryd.f3.params.toList args.toList ds p := hA0
  rw [Tryd.params3] at hA hval
  obtain ⟨v0, vs0, d0, ds0, p0, q0, hargs, rfl, rfl, h0, r0⟩ := trodAll_cons hA
  obtain ⟨rfl, rfl, rfl⟩ := trodAll_nil r0
  obtain rfl : args = #[v0] := by cases args; simp_all
  obtain ⟨rfl, rfl⟩ := trodVars_none hV
  obtain ⟨a0, len0, cap0, rfl⟩ := okWide_slice Tryd.underlying22 (hval 0 22 v0 rfl rfl)
  have k0 := h0
  have lt0 : ∀ x ∈ p0, x.block < W.heap.size := by obtain ⟨m, hm⟩ := k0; exact DataW.trod_lt m _ _ _ hm
  obtain ⟨w0, c0⟩ : Vc.IsRows 2 (fun vs => ∃ x0 x1, vs = [.string x0, .string x1] ∧ x0.size ≤ reachBytes ∧ x1.size ≤ reachBytes) W a0 len0 ∧ len0 ≤ cap0 := by
    obtain ⟨fuel, hf⟩ := h0
    refine Vc.open_rowsW Tryd.underlying22 Tryd.underlying37 (by kernel_rfl) (by kernel_rfl) (List.all_eq_true.2 fun q hq => List.all_eq_true.1 hsz q (DataW.weights_mem_each (j := 0) (t := 22) rfl rfl q hq)) ?_ hf
    intro n cs hcs hall
    match cs, hcs with
    | [c0, c1], _ =>
      obtain ⟨y0, g0, k0⟩ := hall 0 _ c0 rfl rfl
      obtain ⟨x0, e0, d0, f0⟩ := DataW.trod_string Tryd.underlying9 g0
      obtain rfl := (List.cons.inj e0).1
      have f0 : x0.size ≤ reachBytes := by simpa [d0, DataW.weights] using k0
      obtain ⟨y1, g1, k1⟩ := hall 1 _ c1 rfl rfl
      obtain ⟨x1, e1, d1, f1⟩ := DataW.trod_string Tryd.underlying9 g1
      obtain rfl := (List.cons.inj e1).1
      have f1 : x1.size ≤ reachBytes := by simpa [d1, DataW.weights] using k1
      exact ⟨x0, x1, rfl, f0, f1⟩
  clear hA0 hval0
  refine ((files_of len0 w0).elim fun xs h => zipWrites_walk h.2.1 h.1 c0 h.2.2).mono fun e W' ⟨he, bel⟩ => ?_
  subst he
  exact ⟨_, rfl, _, _, _, [], _, [], hW', trodAll_mk1 (shut_bool Tryd.underlying4 _), (trodAll_cons_mk (Below.trod laidOut (by kernel_rfl) (of_decide_eq_true (by kernel_rfl)) k0 bel lt0) trodAll_mk0), rfl, bel.frame _, fun h => by cases h⟩

theorem over : Rows.zipWritesRow.holds Tryd.pinned (OpenSpec.ofChange Rows.zipWritesSpec) :=
  OpenClaim.holds_of_wide 3 Tryd.f3 rfl rfl rfl rfl rfl rfl rfl ⟨rfl, rfl, rfl, rfl, rfl⟩ rfl rfl rfl rfl rfl (by kernel_rfl) Tryd.func3 (by kernel_rfl)
    (of_decide_eq_true (by kernel_rfl)) (by unfold Func.isWrapper; first | (rw [if_pos (by decide +kernel)]; kernel_rfl) | (rw [if_neg (by decide +kernel)]; exact ⟨rfl, rfl⟩))
    (fun os started H enc _ => lifted os started H enc)

/-- The statement. -/
theorem proved : Rows.ZipWritesCardSaid :=
  Claim7.holds_tied_plain_at .later [] [.data, .pinned] true (true, "0eb27af101e4e04535c639a375fc4637eed6172aaaeb719e4b37c29ceb5b9f04") true over (fun _ h => by cases h) (by kernel_rfl) (fun _ h => by cases h) zipWrites_row_tie rfl ⟨rfl, rfl⟩ (by kernel_rfl) rfl
    (fun f fn hf hfn => by
      obtain rfl : f = 3 := Option.some.inj ((show Tryd.prog.funcNamed "cartulary/cartularylaw23.ZipWrites" = some 3 by kernel_rfl).symm.trans hf) |>.symm
      obtain rfl : fn = Tryd.f3 := (Option.some.inj (Tryd.func3.symm.trans hfn)).symm
      exact ⟨by kernel_rfl, fun j t ht => by
        rw [Tryd.params3] at ht
        have hm : t ∈ [22] := by simpa using Array.mem_of_getElem? ht
        have hall : ([22].all fun u => !Tryd.prog.wantsStandIn u) = true := by kernel_rfl
        exact (show Tryd.prog.wantsStandIn t = false by simpa using List.all_eq_true.1 hall t hm)⟩)
    (by kernel_rfl)
#print axioms proved
end Go.Proofs.YtfoeooddnmppnaaDoor.zipWrites
