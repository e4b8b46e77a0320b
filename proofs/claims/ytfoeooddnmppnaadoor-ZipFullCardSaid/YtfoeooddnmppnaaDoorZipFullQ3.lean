/- Texts of this seat in one: made by a program of ours. -/
import Derived.Test.YtfoeooddnmppnaaDoorZipFullQ0
import Derived.Test.YtfoeooddnmppnaaDoorZipFullQ2
import Derived.Deep.Slices
import Derived.Deep.Fields
import Derived.ChangeSame
import Derived.SizedLaws
import Derived.Test.YtfoeooddnmppnaaDoorRows
import Derived.Test.YtfoeooddnmppnaaDoorCards
import Derived.Test.YtfoeooddnmppnaaDoorTie
import Derived.WalkKit
import Derived.ProofKit
import Derived.OpenShut
import Derived.ShutString
import Derived.ChangeOld
import Derived.Below
import Derived.SevenTiedAt
import Derived.LaidMore
import Derived.Lay
import Derived.LaidOnce
/- The reference's Text; chapter 23's awake; zip.Read of no bytes. Conditions: as named. -/
set_option linter.unusedVariables false
namespace Go.Proofs.YtfoeooddnmppnaaDoor
open Go Vc SumM Go.Proofs

theorem zread_short {s : ByteArray} (hs : s.size < 22) (w : World) :
    Calls Tryd.prog F_zip_Read #[.string s] w fun e w' => e = .returned (.tuple #[.slice none 0 0, .int .i64 6]) ∧ Fr (fun _ => False) w w' := by
  refine vc_zip_Read_ok (R := fun v w' => v = .tuple #[.slice none 0 0, .int .i64 6] ∧ Fr (fun _ => False) w w') ?_ (fun v w' h => ⟨by rw [h.1], h.2⟩)
  intro w1 h1 w2 h2
  have f1 : Fr (fun _ => False) w w1 := by rw [h1]; exact .alloc _ _ _
  have f2 : Fr (fun _ => False) w1 w2 := by rw [h2]; exact .alloc _ _ _
  have hA : w2.heap[w.heap.size]? = some (.cells #[.slice none 0 0] T_S_api_File (0, 0)) := f2.keep (by rw [h1]; exact alloc_new w _) (by simp)
  have s1 : w1.heap.size = w.heap.size + 1 := by rw [h1]; simp
  have hE : w2.heap[w1.heap.size]? = some (.cells #[.int .i64 0] T_api_Errno (0, 0)) := by rw [h2]; exact alloc_new w1 _
  refine ⟨fun h => absurd (of_decide_eq_true h) (by omega), fun _ => ⟨fun _ => ⟨wr_blk hA (Nat.lt_succ_self 0), fun w7 h7 => ?_⟩, fun h => absurd (of_decide_eq_false h) (by omega)⟩⟩
  have hA7 : w7.heap[w.heap.size]? = some (.cells #[.slice none 0 0] T_S_api_File (0, 0)) := by rw [h7, set_blk hA]; rfl
  have f7 : Fr (· = w.heap.size) w2 w7 := by rw [h7]; exact Fr.set (· = w.heap.size) w2 (a := ⟨w.heap.size, 0, none⟩) _ rfl
  have hE7 := f7.keep hE (by omega)
  refine ⟨wr_blk hE7 (Nat.lt_succ_self 0), fun w8 h8 => ?_⟩
  have hE8 : w8.heap[w1.heap.size]? = some (.cells #[.int .i64 6] T_api_Errno (0, 0)) := by rw [h8, set_blk hE7]; rfl
  have f8 : Fr (· = w1.heap.size) w7 w8 := by rw [h8]; exact Fr.set (· = w1.heap.size) w7 (a := ⟨w1.heap.size, 0, none⟩) _ rfl
  refine ⟨⟨none, 0, 0⟩, load_one (by kernel_rfl) (by rw [cell_blk (f8.keep hA7 (by omega))]; rfl), 6, load_one (by kernel_rfl) (by rw [cell_blk hE8]; rfl), rfl, ?_⟩
  exact ((f1.trans' f2).trans f7 fun q hq e => by omega).trans f8 fun q hq e => by omega
theorem reads_snoc {w : World} {a : Option Addr} {xs : List Value} : ∀ {v : Value}, Reads w a (xs ++ [v]) → Reads w a (xs ++ [v]) := fun h => h
set_option maxHeartbeats 1600000 in
theorem rtext_spec {w : World} {a : Option Addr} {n c : Nat} {ys : List FileE} (hr : ReadsK encF 2 w a ys) (hn : ys.length = n) (hx : ∀ y ∈ ys, y.data.size < 4294967296 ∧ y.path.size < 4294967296) (ho : (outL ys).length ≤ 1099511627776) (hi : (idxL 0 ys).length ≤ 1099511627776) (hl : n ≤ 100000) :
    Calls Tryd.prog F_cartularyref23_Text #[.slice a n c] w fun e w' => e = .returned (.string ⟨(zipL ys).toArray⟩) ∧ Fr (fun _ => False) w w' := by
  refine vc_cartularyref23_Text_ok (R := fun v w' => v = .string ⟨(zipL ys).toArray⟩ ∧ Fr (fun _ => False) w w') ?_ (fun v w' h => ⟨by rw [h.1], h.2⟩)
  intro w1 h1 w2 h2
  have f1 : Fr (fun _ => False) w w1 := by rw [h1]; exact .alloc _ _ _
  have f2 : Fr (fun _ => False) w1 w2 := by rw [h2]; exact .alloc _ _ _
  have s1 : w1.heap.size = w.heap.size + 1 := by rw [h1]; simp
  have p2 : Vc.Own w2 w.heap.size T_string ⟨some ⟨w.heap.size, 0, none⟩, 0, 0⟩ [] := (by rw [h1]; exact own_empty w T_string : Vc.Own w1 w.heap.size T_string ⟨some ⟨w.heap.size, 0, none⟩, 0, 0⟩ []).keep f2 (by simp)
  have m2 : Vc.Own w2 w.heap.size T_int ⟨some ⟨w1.heap.size, 0, none⟩, 0, 0⟩ [] := (by rw [h2]; exact own_empty w1 T_int : Vc.Own w2 w1.heap.size T_int ⟨some ⟨w1.heap.size, 0, none⟩, 0, 0⟩ []).mono (by omega)
  have tk : ∀ k, (ys.take k).length ≤ 100000 := fun k => by rw [List.length_take]; omega
  refine ⟨fun lp lm i w' => ∃ k : Nat, i = k ∧ k ≤ ys.length ∧ Vc.Own w' w.heap.size T_string lp (pakV ((ys.take k).map stoZ)) ∧ Vc.Own w' w.heap.size T_int lm (metV ((ys.take k).map stoZ)) ∧ (∀ p q, lp.a = some p → lm.a = some q → p.block ≠ q.block) ∧ Fr (fun _ => False) w w', fun _ _ i _ => ys.length - i.toNat,
    ⟨0, rfl, Nat.zero_le _, p2, m2, fun p q hp hq => by cases hp; cases hq; simp only; omega, f1.trans' f2⟩, ?_⟩
  clear p2 m2
  rintro lp lm i w8 ⟨k, rfl, hk, op, om, hdis, hf⟩
  have hw8 := hf.size
  have lpk : (pakV ((ys.take k).map stoZ)).length ≤ 100000 := by unfold pakV; rw [List.length_map, List.length_map]; exact tk k
  have lmk : (metV ((ys.take k).map stoZ)).length ≤ 100000 := by unfold metV; rw [List.length_map, List.length_map]; exact tk k
  refine ⟨fun hlt => ?_, fun hge => ?_⟩
  · have hlt := of_decide_eq_true hlt
    have hkl : k < ys.length := by omega
    have hyk : ys[k]? = some ys[k] := List.getElem?_eq_getElem hkl
    have htk : ys.take (k + 1) = ys.take k ++ [ys[k]] := (List.take_append_getElem hkl).symm
    generalize ys[k] = y at hyk htk
    obtain ⟨ad, had, hld⟩ := (hr.keep hf (by simp)).load elF hyk
    rw [Int.toNat_natCast]
    refine ⟨⟨by omega, by omega⟩, ad, had, y.path, y.data, hld, fun w12 h12 => ?_⟩
    subst h12
    obtain ⟨w13, hw13⟩ : ∃ w13, w8.alloc (.cells (encF y).toArray T_api_File) = w13 := ⟨_, rfl⟩
    have hfb : Fr (fun _ => False) w8 w13 := by rw [← hw13]; exact .alloc _ _ _
    have s13 := hfb.size
    refine ⟨w13, by rw [← hw13]; exact boxF_run w8 y, y.data, by rw [← hw13]; exact boxF_cell w8 y (.refl (fun _ => False) _) (by simp) (j := 1) rfl, fun w15 h15 => ?_⟩
    obtain ⟨w16, l17, hr16, op16, f16, s16⟩ := append_one' elStrZ (op.keep hfb (by simp)) (v := .string y.data) rfl (by unfold maxLen; omega) (by omega) (by omega) h15
    refine ⟨w16, l17, hr16, fun w18 h18 => ?_⟩
    have hs16 := f16.size
    have om16 := (om.keep hfb (by simp)).keep f16 fun q hq ⟨p, hp, e⟩ => hdis p q hp hq e.symm
    obtain ⟨w19, l20, hr19, om19, f19, s19⟩ := append_one' elIntZ om16 (v := .int .i64 0) rfl (by unfold maxLen; omega) (by omega) (by omega) h18
    have e1 : IntKind.i64.wrap ((k : Int) + 1) = ((k + 1 : Nat) : Int) := by rw [wrap_i64 (by omega) (by omega)]; omega
    rw [e1]
    have hd17 : ∀ p q, l17.a = some p → lm.a = some q → p.block ≠ q.block := fun p q hp hq => by
      rcases s16 p hp with ⟨z, hz, e⟩ | h
      · rw [← e]; exact hdis z q hz hq
      · have := (om.blk hq).2; omega
    refine ⟨w19, l20, hr19, ⟨k + 1, rfl, by omega, ?_, ?_, fun p q hp hq => ?_, ((hf.trans' hfb).trans f16 fun q hq ⟨z, hz, e⟩ => by have := (op.blk hz).1; omega).trans f19 fun q hq ⟨z, hz, e⟩ => by have := (om.blk hz).1; omega⟩, by dsimp only; omega⟩
    · rw [htk]
      unfold pakV
      rw [List.map_append, List.map_append]
      exact op16.keep f19 fun q hq ⟨z, hz, e⟩ => hd17 q z hq hz e
    · rw [htk]
      unfold metV
      rw [List.map_append, List.map_append]
      exact om19
    · rcases s19 q hq with ⟨z, hz, e⟩ | h
      · rw [← e]; exact hd17 p z hp hz
      · have := (op16.blk hp).2; omega
  · have hge := of_decide_eq_false hge
    have hk' : k = ys.length := by omega
    rw [hk', List.take_length] at op om
    have hlp : (pakV (ys.map stoZ)).length = ys.length := by unfold pakV; rw [List.length_map, List.length_map]
    have hlm : (metV (ys.map stoZ)).length = ys.length := by unfold metV; rw [List.length_map, List.length_map]
    refine (rarchive_spec (c := lm.a) (ca := c) (cb := lp.cap) (cc := lm.cap) (es := ys.map stoZ) (by rw [fil_sto]; exact hr.keep hf (by simp)) op.reads om.reads (by rw [List.length_map]; exact hn) (by rw [op.len, hlp, List.length_map]) (by rw [om.len, hlm, List.length_map]) (fun x hx' => ?_) (by rw [outZ_sto]; exact ho) (by rw [idxZ_sto]; exact hi) (by omega)).mono ?_
    · obtain ⟨y, hy, rfl⟩ := List.mem_map.1 hx'
      obtain ⟨h1, h2⟩ := hx y hy
      exact ⟨(by decide : 0 < 65536), h1, h1, h2⟩
    rintro e w22 ⟨rfl, f22⟩
    rw [arcZ_sto]
    exact ⟨_, rfl, rfl, hf.trans' f22⟩
def aw23 : List FileE := [⟨⟨#[97]⟩, ⟨#[104, 105]⟩⟩]
theorem aw23_chk : zchk aw23 = 0 := by kernel_rfl
theorem zipL_len (ys : List FileE) : (zipL ys).length = (outL ys).length + ((idxL 0 ys).length + 22) := by
  unfold zipL
  rw [List.length_append, List.length_append, endL_len]
theorem good_sto {ys : List FileE} (h0 : zchk ys = 0) (hs : (zipL ys).length ≤ 2097152) : GoodZ (ys.map stoZ) ⟨(zipL ys).toArray⟩ := by
  obtain ⟨h1, h2, h3⟩ := zchk_ok h0
  refine ⟨by rw [bs_mk, arcZ_sto], by rw [bs_mksize]; exact hs, by rw [fil_sto]; exact h0, fun x hx => ?_⟩
  obtain ⟨y, hy, rfl⟩ := List.mem_map.1 hx
  refine sto_unp ?_
  have : ∀ zs : List FileE, y ∈ zs → y.data.size ≤ totalF zs := fun zs => by
    induction zs with
    | nil => intro h; simp at h
    | cons z r ih =>
      intro h
      unfold totalF at *
      rw [List.map_cons, List.sum_cons]
      rcases List.mem_cons.1 h with rfl | h
      · omega
      · have := ih h; omega
  have := this ys hy
  omega
theorem zipL_le {ys : List FileE} (h0 : zchk ys = 0) : (zipL ys).length ≤ 1500000 := by
  obtain ⟨h1, h2, h3⟩ := zchk_ok h0
  have hp : ∀ y ∈ ys, y.path.size ≤ 200 := fun y hy => by
    have := h3 y hy
    unfold cleanB at this
    simp only [Bool.and_eq_true, decide_eq_true_eq] at this
    omega
  have a1 := outL_len (B := 200) ys hp
  have a2 := idxL_len (B := 200) 0 ys hp
  have a3 : ys.length * (30 + 200) ≤ 600 * 230 := Nat.mul_le_mul h1 (by omega)
  have a4 : ys.length * (46 + 200) ≤ 600 * 246 := Nat.mul_le_mul h1 (by omega)
  rw [zipL_len]; omega
theorem awake23_spec (w : World) : Calls Tryd.prog F_cartularylaw23_awake #[] w fun e w' => e = .returned (.bool true) ∧ Fr (fun _ => False) w w' := by
  refine vc_cartularylaw23_awake_ok (R := fun v w' => v = .bool true ∧ Fr (fun _ => False) w w') ?_ (fun v w' h => ⟨by rw [h.1], h.2⟩)
  intro w1 h1
  have key : ∀ (v v' : World), v' = v.alloc (.cells (encF ⟨⟨#[97]⟩, ⟨#[104, 105]⟩⟩).toArray T_api_File) → ReadsK encF 2 v' (some ⟨v.heap.size, 0, none⟩) aw23 := fun v v' h i y hi => by
    cases i with
    | zero =>
      simp only [aw23, List.getElem?_cons_zero, Option.some.injEq] at hi
      subst hi
      refine ⟨_, rfl, fun j u hv => ?_⟩
      rw [Nat.zero_mul, add_lit, add_lit, h, cell_blk (alloc_new v _), Nat.zero_add]; simpa using hv
    | succ i => simp [aw23] at hi
  have f1 : Fr (fun _ => False) w w1 := by rw [h1]; exact .alloc _ _ _
  refine (zwrite_spec (key w w1 h1) rfl (by decide) (by decide +kernel) (by decide +kernel)).mono ?_
  rintro e w3 ⟨rfl, f3⟩
  have hz : zipE aw23 = ⟨(zipL aw23).toArray⟩ := by unfold zipE; rw [if_pos aw23_chk]
  have hlen : (zipL aw23).length = 102 := by
    rw [zipL_len]
    simp only [aw23, outL, List.flatMap_cons, List.flatMap_nil, idxL, List.length_append, List.length_nil, locL_len, cenL_len]
    rfl
  rw [hz, aw23_chk]
  refine ⟨_, _, rfl, (zread_spec (good_sto aw23_chk (by omega)) w3).mono ?_⟩
  rintro e w7 ⟨l8, rfl, o7, f7⟩
  rw [fil_sto] at o7
  refine ⟨l8, 0, rfl, (zread_short (by decide) w7).mono ?_⟩
  rintro e w11 ⟨rfl, f11⟩
  refine ⟨⟨none, 0, 0⟩, 6, rfl, fun _ => ⟨fun _ => ⟨fun _ => ⟨fun _ w14 h14 => ?_, fun h => ?_⟩, fun h => absurd h (by decide)⟩, fun h => absurd h (by decide)⟩, fun h => absurd h (by decide)⟩
  · have f14 : Fr (fun _ => False) w11 w14 := by rw [h14]; exact .alloc _ _ _
    refine (rsame_spec (((o7.keep f11 (by simp)).keep f14 (by simp)).reads elF.len) (key w11 w14 h14) o7.1 rfl (by rw [← o7.1]; decide)).mono ?_
    rintro e w16 ⟨⟨r, rfl, hr⟩, d16⟩
    refine ⟨r, rfl, by rw [hr.2 rfl], (((((f1.trans' f3).trans' f7).trans' f11).trans' f14).trans' (.drew _ d16))⟩
  · rw [bs_mksize, hlen] at h; exact absurd h (by decide)
end Go.Proofs.YtfoeooddnmppnaaDoor

/- ZipFull: files are taken just up to the limits. Conditions: none. -/
set_option linter.unusedVariables false
namespace Go.Proofs.YtfoeooddnmppnaaDoor
open Go Vc SumM Go.Proofs

theorem make_bytesZ {w : World} {base n : Nat} (hn : n ≤ 10000) (hbase : base ≤ w.heap.size) :
    ∃ w', (Instr.makeSlice T_S_uint8 (.int .i64 (n : Int)) (.int .i64 (n : Int))).run Tryd.prog w = .ok (.slice (some ⟨w.heap.size, 0, none⟩) n n) w' ∧ Vc.Own w' base T_uint8 ⟨some ⟨w.heap.size, 0, none⟩, n, n⟩ (byteV (List.replicate n 0)) ∧ Fr (fun _ => False) w w' := by
  obtain ⟨i, hi, hi2⟩ := Option.map_eq_some_iff.1 elByteH.info
  simp only [Prod.mk.injEq] at hi2
  obtain ⟨hz, hs1, hby⟩ := hi2
  obtain ⟨w', hr, ho, hg⟩ := run_makeSlice_full (P := Tryd.prog) w base T_S_uint8 T_uint8 i (.int .u8 0) 1 elByteH.sl hi hz hs1 .i64 .i64 n (by omega) (by rw [hby]; omega) (by unfold maxLen; omega) hbase
  refine ⟨w', hr, ?_, (Fr.grown hg).mono fun k _ hk => by cases hk⟩
  have := (Vc.Own.ofRow ho).1
  rwa [show (madeCells (Value.int .u8 0).cells (n * 1)).toList = byteV (List.replicate n 0) from ?_] at this
  unfold madeCells
  simp [byteV, Value.cells, Nat.mod_one]
  exact List.eq_replicate_iff.2 ⟨by simp, fun b hb => by obtain ⟨x, _, rfl⟩ := List.mem_map.1 hb; rfl⟩
def nameZ (i : Nat) : List UInt8 := [UInt8.ofNat (97 + i / 26), UInt8.ofNat (97 + i % 26)]
def fileZ (sz i : Nat) : FileE := ⟨⟨(nameZ i).toArray⟩, ⟨(List.replicate sz 0).toArray⟩⟩
def fullZ (sz k : Nat) : List FileE := (List.range k).map (fileZ sz)
theorem fullZ_snoc (sz k : Nat) : fullZ sz (k + 1) = fullZ sz k ++ [fileZ sz k] := by
  unfold fullZ; rw [List.range_succ, List.map_append]; rfl
theorem fullZ_len (sz k : Nat) : (fullZ sz k).length = k := by unfold fullZ; simp
theorem fullZ_total (sz : Nat) : ∀ k, totalF (fullZ sz k) = k * sz
  | 0 => by simp [fullZ, totalF]
  | k + 1 => by
    have := fullZ_total sz k
    unfold totalF at this ⊢
    rw [fullZ_snoc, List.map_append, List.sum_append, this, Nat.succ_mul]
    show k * sz + ((fileZ sz k).data.size + 0) = _
    rw [show (fileZ sz k).data.size = sz from (bs_mksize _).trans (List.length_replicate ..)]; rfl
theorem of_ltZ {a b : Nat} (h : a < b) (hb : b < 256) : UInt8.ofNat a < UInt8.ofNat b := by
  rw [UInt8.lt_iff_toNat_lt, toNat_of _ (by omega), toNat_of _ hb]; exact h
theorem nameZ_lt {i j : Nat} (h : i < j) (hj : j ≤ 700) : nameZ i < nameZ j := by
  unfold nameZ
  have h1 : i / 26 ≤ j / 26 := Nat.div_le_div_right (by omega)
  rw [List.cons_lt_cons_iff]
  by_cases e1 : i / 26 = j / 26
  · refine .inr ⟨by rw [e1], ?_⟩
    rw [List.cons_lt_cons_iff]
    exact .inl (of_ltZ (by omega) (by omega))
  · exact .inl (of_ltZ (by omega) (by omega))
theorem fileZ_clean (sz i : Nat) (hi : i ≤ 700) : cleanB (fileZ sz i).path = true := by
  have hs : (fileZ sz i).path.size = 2 := bs_mksize _
  have hl : (fileZ sz i).path.data.toList = nameZ i := bs_mk _
  have hno : (47 : UInt8) ∉ nameZ i := by
    unfold nameZ
    simp only [List.mem_cons, List.mem_nil_iff, or_false]
    have key : ∀ n, 97 ≤ n → n < 256 → (47 : UInt8) ≠ UInt8.ofNat n := fun n h1 h2 e => by
      have := congrArg UInt8.toNat e
      rw [toNat_of _ h2] at this
      have h47 : (47 : UInt8).toNat = 47 := rfl
      omega
    rintro (h | h)
    · exact key _ (by omega) (by omega) h
    · exact key _ (by omega) (by omega) h
  unfold cleanB
  rw [Bool.and_eq_true, Bool.and_eq_true]
  refine ⟨⟨decide_eq_true (by omega), ?_⟩, decide_eq_true fun k hk => ?_⟩
  · rw [partsF_L _ _ (Nat.le_refl _), hl, partsL_plain _ hno, List.all_eq_true]
    intro x hx
    have hx : x = ⟨(nameZ i).toArray⟩ := by simpa [bsm] using hx
    have hxl : x.data.toList = nameZ i := by rw [hx]
    have hna : nameZ i ≠ [] ∧ nameZ i ≠ [46] ∧ nameZ i ≠ [46, 46] := by
      unfold nameZ
      refine ⟨by simp, by simp, fun e => ?_⟩
      have h1 := congrArg UInt8.toNat (List.cons.inj e).1
      rw [toNat_of _ (by omega)] at h1
      have h46 : (46 : UInt8).toNat = 46 := rfl
      omega
    unfold partOK
    rw [Bool.and_eq_true, Bool.and_eq_true]
    refine ⟨⟨decide_eq_true fun e => ?_, decide_eq_true fun e => ?_⟩, decide_eq_true fun e => ?_⟩
    · rw [e] at hxl; first | exact hna.1 hxl.symm | exact hna.2.1 hxl.symm | exact hna.2.2 hxl.symm
    · rw [e] at hxl; first | exact hna.1 hxl.symm | exact hna.2.1 hxl.symm | exact hna.2.2 hxl.symm
    · rw [e] at hxl; first | exact hna.1 hxl.symm | exact hna.2.1 hxl.symm | exact hna.2.2 hxl.symm
  · unfold byt
    rw [hl]
    unfold nameZ
    have hk : k < 2 := by omega
    match k, hk with
    | 0, _ => simp only [List.getElem?_cons_zero, Option.getD_some]; rw [toNat_of _ (by omega)]; omega
    | 1, _ => simp only [List.getElem?_cons_succ, List.getElem?_cons_zero, Option.getD_some]; rw [toNat_of _ (by omega)]; omega
theorem fullZ_get {sz k i : Nat} (h : i < k) : (fullZ sz k)[i]? = some (fileZ sz i) := by
  unfold fullZ
  rw [List.getElem?_map, List.getElem?_range h]; rfl
theorem fullZ_ok (sz k : Nat) (hk : k ≤ 600) (ht : k * sz ≤ 1048576) : zchk (fullZ sz k) = 0 := by
  unfold zchk
  rw [fullZ_len, fullZ_total, if_neg (by omega), if_pos]
  refine List.all_eq_true.2 fun i hi => ?_
  have hi := List.mem_range.1 hi
  unfold okZ
  rw [fullZ_get hi]
  simp only [fileZ_clean sz i (by omega), Bool.true_and]
  by_cases h0 : i = 0
  · rw [decide_eq_true h0, Bool.true_or]
  · rw [fullZ_get (show i - 1 < k by omega)]
    have : (fileZ sz (i - 1)).path.data.toList < (fileZ sz i).path.data.toList := by
      rw [show (fileZ sz (i - 1)).path.data.toList = nameZ (i - 1) from bs_mk _, show (fileZ sz i).path.data.toList = nameZ i from bs_mk _]
      exact nameZ_lt (by omega) (by omega)
    simp only [decide_eq_true this, Bool.or_true]
/-- 'ZipFull'. -/
theorem zipFull_walk (n sz : Int) (W : World) : Calls Tryd.prog F_cartularylaw23_ZipFull #[.int .i64 n, .int .i64 sz] W fun e w' => e = .returned (.bool true) ∧ RowKit.Below W.heap.size W w' := by
  refine vc_cartularylaw23_ZipFull_ok (R := fun v w' => v = .bool true ∧ Fr (fun _ => False) W w') ?_ (fun v w' h => ⟨by rw [h.1], (h.2.mono fun _ _ h => h.elim : Fr (fun k => W.heap.size ≤ k) W w').below (Nat.le_refl _)⟩)
  have aw : ∀ {w21 : World}, Fr (fun _ => False) W w21 → Calls Tryd.prog F_cartularylaw23_awake #[] w21 fun e24 w25 => ∃ b26, e24 = .returned (.bool b26) ∧ (Value.bool b26 = .bool true ∧ Fr (fun _ => False) W w25) := fun hf => (awake23_spec _).mono fun e w' ⟨h1, h2⟩ => ⟨true, h1, rfl, hf.trans' h2⟩
  refine ⟨fun _ => aw (.refl _ _), fun h1 => ⟨fun _ => aw (.refl _ _), fun h2 => ⟨fun _ => aw (.refl _ _), fun h3 => ⟨fun _ => aw (.refl _ _), fun h4 w13 h13 => ?_⟩⟩⟩⟩
  have h1 := of_decide_eq_false h1
  have h2 := of_decide_eq_false h2
  have h3 := of_decide_eq_false h3
  have h4 := of_decide_eq_false h4
  obtain ⟨N, rfl⟩ := Int.eq_ofNat_of_zero_le (show 0 ≤ n by omega)
  obtain ⟨Z, rfl⟩ := Int.eq_ofNat_of_zero_le (show 0 ≤ sz by omega)
  have hf13 : Fr (fun _ => False) W w13 := by rw [h13]; exact .alloc _ _ _
  have ho13 : OwnK encF 2 w13 W.heap.size T_api_File ⟨some ⟨W.heap.size, 0, none⟩, 0, 0⟩ [] := by rw [h13]; exact .empty W T_api_File
  clear h13
  refine ⟨fun l i w' => ∃ k : Nat, i = k ∧ k ≤ N ∧ OwnK encF 2 w' W.heap.size T_api_File l (fullZ Z k) ∧ Fr (fun _ => False) W w', fun _ i _ => N - i.toNat, ⟨0, rfl, Nat.zero_le _, ho13, hf13⟩, ?_⟩
  clear ho13 hf13 w13
  rintro l i w18 ⟨k, rfl, hk, ho, hf⟩
  have e1 : IntKind.i64.wrap ((k : Int) + 1) = ((k + 1 : Nat) : Int) := by rw [wrap_i64 (by omega) (by omega)]; omega
  rw [e1]
  refine ⟨fun hlt w19 d19 => ?_, fun hge => ?_⟩
  · have hlt := of_decide_eq_true hlt
    have t2 : Int.tdiv (k : Int) 26 = ((k / 26 : Nat) : Int) := (Int.ofNat_tdiv k 26).symm
    have t3 : Int.tmod (k : Int) 26 = ((k % 26 : Nat) : Int) := (Int.ofNat_tmod k 26).symm
    have eb : IntKind.u8.wrap (IntKind.i64.wrap (97 + IntKind.i64.wrap (Int.tdiv (k : Int) 26))) = ((97 + k / 26 : Nat) : Int) := by
      rw [t2, show IntKind.i64.wrap ((k / 26 : Nat) : Int) = ((k / 26 : Nat) : Int) from wrap_i64 (by omega) (by omega), wrap_i64 (by omega) (by omega), wrap_u8 (by omega) (by omega)]; omega
    have ec : IntKind.u8.wrap (IntKind.i64.wrap (97 + Int.tmod (k : Int) 26)) = ((97 + k % 26 : Nat) : Int) := by
      rw [t3, wrap_i64 (by omega) (by omega), wrap_u8 (by omega) (by omega)]; omega
    rw [eb, ec]
    clear eb ec t2 t3
    have hnv : byteV (nameZ k) = [.int .u8 ((97 + k / 26 : Nat) : Int), .int .u8 ((97 + k % 26 : Nat) : Int)] := by
      unfold byteV nameZ
      simp only [List.map_cons, List.map_nil]
      rw [toNat_of _ (show 97 + k / 26 < 256 by omega), toNat_of _ (show 97 + k % 26 < 256 by omega)]
    have al : ∀ {wx wy : World}, wx = wy.alloc (.cells #[.int .u8 ((97 + k / 26 : Nat) : Int), .int .u8 ((97 + k % 26 : Nat) : Int)] T_uint8) → Fr (fun _ => False) wy wx ∧ Reads wx (some ⟨wy.heap.size, 0, none⟩) (byteV (nameZ k)) := fun {wx wy} h => by
      subst h
      refine ⟨.alloc _ _ _, fun i v hv => ⟨_, rfl, ?_⟩⟩
      rw [add_lit, cell_blk (alloc_new _ _), Nat.zero_add]
      rw [hnv] at hv
      simpa using hv
    have cvN : ∀ {wx : World} {g : Nat}, Reads wx (some ⟨g, 0, none⟩) (byteV (nameZ k)) → (convert T_S_uint8 T_string (.slice (some ⟨g, 0, none⟩) 2 2)).run Tryd.prog wx = .ok (.string (fileZ Z k).path) wx := fun h => bytes_str (e := T_uint8) (by kernel_rfl) (by kernel_rfl) (by kernel_rfl) 2 h rfl
    have cvZ : ∀ {wx : World} {g : Nat}, Reads wx (some ⟨g, 0, none⟩) (byteV (List.replicate Z 0)) → (convert T_S_uint8 T_string (.slice (some ⟨g, 0, none⟩) Z Z)).run Tryd.prog wx = .ok (.string (fileZ Z k).data) wx := fun h => bytes_str (e := T_uint8) (by kernel_rfl) (by kernel_rfl) (by kernel_rfl) Z h (List.length_replicate ..)
    have mk := fun wx : World => make_bytesZ (w := wx) (base := wx.heap.size) (n := Z) (by omega) (Nat.le_refl _)
    have fin : ∀ {wB : World}, Fr (fun _ => False) w18 wB → ∀ wC, wC = wB.alloc (.cells #[.string (fileZ Z k).path, .string (fileZ Z k).data] T_api_File) → True ∧
        ∃ (w29 : World) (l30 : Sl), (Builtin.append_ #[T_S_api_File, T_S_api_File] T_S_api_File #[.slice l.a l.len l.cap, .slice (some ⟨wB.heap.size, 0, none⟩) 1 1]).run Tryd.prog wC = .ok (.slice l30.a l30.len l30.cap) w29 ∧ True ∧
          (∃ k' : Nat, ((k + 1 : Nat) : Int) = k' ∧ k' ≤ N ∧ OwnK encF 2 w29 W.heap.size T_api_File l30 (fullZ Z k') ∧ Fr (fun _ => False) W w29) ∧ N - ((k + 1 : Nat) : Int).toNat < N - (k : Int).toNat := fun {wB} hB wC hC => by
      have hfl := fullZ_len Z k
      have hfB := hf.trans' hB
      obtain ⟨w29, l30, hr, ho', hf', _⟩ := append_oneK elF (ho.keep hB (by simp)) (x := fileZ Z k) (by rw [hfl]; simp only [maxLen]; omega) (by rw [hfl]; omega) hfB.size hC
      refine ⟨trivial, w29, l30, hr, trivial, ⟨k + 1, rfl, by omega, by rw [fullZ_snoc]; exact ho', hfB.trans hf' fun q hq ⟨z, hz, e⟩ => ?_⟩, by omega⟩
      have := (ho.blk hz).1; omega
    have f19 : Fr (fun _ => False) w18 w19 := .drew _ d19
    refine ⟨fun _ => True, trivial, by decide, by decide, fun w21 h21 => ?_, ?_⟩
    · obtain ⟨f21, r21⟩ := al h21
      have F21 := f19.trans' f21
      refine ⟨trivial, ⟨w21, _, cvN r21, trivial, ?_⟩, ?_⟩
      · obtain ⟨w24, hm, om, fm⟩ := mk w21
        exact ⟨w24, ⟨_, _, _⟩, hm, trivial, w24, _, cvZ om.reads, trivial, fin (F21.trans' fm)⟩
      · obtain ⟨w24, hm, om, fm⟩ := mk w21
        exact ⟨w24, ⟨_, _, _⟩, hm, trivial, ⟨w24, _, cvN (r21.keep fm (by simp)), trivial, w24, _, cvZ om.reads, trivial, fin (F21.trans' fm)⟩, w24, _, cvZ om.reads, trivial, w24, _, cvN (r21.keep fm (by simp)), trivial, fin (F21.trans' fm)⟩
    · obtain ⟨w47, hm, om, fm⟩ := mk w19
      have F47 := f19.trans' fm
      refine ⟨w47, ⟨_, _, _⟩, hm, trivial, fun w49 h49 => ?_, ⟨w47, _, cvZ om.reads, trivial, fun w66 h66 => ?_⟩⟩
      · obtain ⟨f49, r49⟩ := al h49
        exact ⟨trivial, ⟨w49, _, cvN r49, trivial, w49, _, cvZ (om.keep f49 (by simp)).reads, trivial, fin (F47.trans' f49)⟩, w49, _, cvZ (om.keep f49 (by simp)).reads, trivial, w49, _, cvN r49, trivial, fin (F47.trans' f49)⟩
      · obtain ⟨f66, r66⟩ := al h66
        exact ⟨trivial, w66, _, cvN r66, trivial, fin (F47.trans' f66)⟩
  have hge := of_decide_eq_false hge
  have hk' : k = N := by omega
  subst hk'
  have hfl := fullZ_len Z k
  have hft := fullZ_total Z k
  have hok := fullZ_ok Z k
  have hll : (fullZ Z k).length = l.len := ho.1
  have hprod : k * Z ≤ 700 * 3000 := Nat.mul_le_mul (by omega) (by omega)
  have hmul : IntKind.i64.wrap ((k : Int) * (Z : Int)) = ((k * Z : Nat) : Int) := by
    rw [← Int.natCast_mul, wrap_i64 (by omega) (by omega)]
  rw [hmul]
  have hps : ∀ x ∈ fullZ Z k, x.path.size ≤ 140737488355328 := fun x hx => by
    obtain ⟨i, _, rfl⟩ := List.mem_map.1 hx
    rw [show (fileZ Z i).path.size = 2 from bs_mksize _]; omega
  have hbad : (600 < k ∨ 1048576 < k * Z) → zchk (fullZ Z k) = 2 := fun h => by
    unfold zchk; rw [hfl, hft, if_pos h]
  generalize fullZ Z k = zs at ho hfl hft hok hll hps hbad
  refine (zcheck_spec (ho.reads fun _ => rfl) hll (by omega) hps (by omega)).mono ?_
  rintro e w73 ⟨rfl, f73⟩
  have g73 := hf.trans' f73
  refine ⟨_, rfl, fun b w' => b = decide (600 < k ∨ 1048576 < k * Z) ∧ w' = w73, ⟨fun h5 => ⟨?_, rfl⟩, fun h5 => ⟨?_, rfl⟩⟩, ?_⟩
  · have h5 := of_decide_eq_true h5
    rw [decide_eq_true (.inl (by omega))]
  · have h5 := of_decide_eq_false h5
    exact decide_eq_decide.2 ⟨fun h => .inr (by omega), fun h => by rcases h with h | h <;> omega⟩
  rintro b w77 ⟨hb, hw⟩
  replace hw := hw.symm
  subst hw
  refine ⟨fun h => ?_, fun h => ?_⟩
  · rw [hb] at h
    have h2 := hbad (of_decide_eq_true h)
    refine (zwrite_spec ((ho.keep f73 (by simp)).reads fun _ => rfl) hll (by omega) hps (by omega)).mono ?_
    rintro e w79 ⟨rfl, f79⟩
    refine ⟨_, _, rfl, (awake23_spec w79).mono ?_⟩
    rintro e w83 ⟨rfl, f83⟩
    have hz : zipE zs = ⟨#[]⟩ := by unfold zipE; rw [if_neg (by rw [h2]; decide)]
    refine ⟨true, rfl, fun _ => ⟨fun _ => ⟨fun _ => ⟨?_, (g73.trans' f79).trans' f83⟩, fun h => ?_⟩, fun h => ?_⟩, fun h => (by cases h)⟩
    · rw [hz, bs_eq, decide_eq_true rfl]
    · rw [h2] at h; exact absurd h (by decide)
    · rw [h2] at h; exact absurd h (by decide)
  · rw [hb] at h
    have h := of_decide_eq_false h
    have h0 := hok (by omega) (by omega)
    refine (awake23_spec w73).mono ?_
    rintro e w86 ⟨rfl, f86⟩
    refine ⟨true, rfl, fun _ => ⟨?_, g73.trans' f86⟩, fun h => (by cases h)⟩
    rw [h0]; rfl
end Go.Proofs.YtfoeooddnmppnaaDoor

/- Slices of structs that came in, opened to cells. No condition: for all programs. -/
set_option linter.unusedVariables false
namespace Vc
open Go Go.ChangeShapes Go.WideShapes Go.Deep
section
variable {H : Type} {enc : TypeId × Value → H} {P : Program} {w : World} {base : Nat} {spare : Nat → Bool} {held : Bool}
/-- What the fields of an element say, its cells say. -/
def FieldsSay (enc : TypeId × Value → H) (P : Program) (w : World) (base : Nat) (spare : Nat → Bool) (held : Bool) (fs : Array Field) (Q : List Value → Prop) : Prop :=
  ∀ n (cs : List Value), cs.length = fs.size → (∀ (j : Nat) (f : Field) (v : Value), fs[j]? = some f → cs[j]? = some v → ∃ y, DataW.trod enc P w base spare held n f.type [v] = some y) → Q cs
theorem open_rows {t e : TypeId} {fs : Array Field} {fuel : Nat} {a : Option Addr} {len cap : Nat} {x : DataW H × List MemPlace} {Q : List Value → Prop} (ht : P.underlying t = some (.slice e)) (he : P.underlying e = some (.struct fs))
    (hone : oneCellFields P fs = true) (hC : P.cellsOf e = fs.size) (hQ : FieldsSay enc P w base spare held fs Q) (h : DataW.trod enc P w base spare held fuel t [.slice a len cap] = some x) : IsRows fs.size Q w a len := by
  intro i hi
  rcases open_slice ht h with ⟨h0, _⟩ | ⟨b, l, c, m, n, D, Pl, hcs, hb, hl, hm, hmm, hx, hi'⟩
  · simp only [List.cons.injEq, Value.slice.injEq] at h0; omega
  · simp only [List.cons.injEq, Value.slice.injEq, and_true] at hcs
    obtain ⟨rfl, rfl, rfl⟩ := hcs
    obtain ⟨cs, hc, htr⟩ := hi' i (by rw [hmm]; split <;> omega)
    obtain ⟨ys, n', _, _, hlen, hyl, hf⟩ := DataW.trod_struct he htr
    obtain ⟨_, hcl, hat⟩ := World.cells?_some hc
    rw [hC] at hcl hat
    refine ⟨b, cs, rfl, hcl, hQ n' cs hcl ?_, ?_⟩
    · intro j f v hj hv
      obtain ⟨ho, hk⟩ := hone_of hone j f hj
      have hjl : j < fs.size := (Array.getElem?_eq_some_iff.1 hj).1
      have h1 := hf j f hj
      have h2 : (cs.drop j).take 1 = [v] := by
        obtain ⟨hjl', hv'⟩ := List.getElem?_eq_some_iff.1 hv
        rw [List.drop_eq_getElem_cons hjl', hv']; rfl
      rw [ho, hk, h2, List.getElem?_eq_getElem (show j < ys.length by omega)] at h1
      exact ⟨_, h1⟩
    · intro j v hv
      have hjl := (List.getElem?_eq_some_iff.1 hv).1
      rw [← hv, ← hat j (by omega), add_add]
/-- As above, and what was read takes no more bytes than memory has. -/
def FieldsSayW (enc : TypeId × Value → H) (P : Program) (w : World) (base : Nat) (spare : Nat → Bool) (held : Bool) (fs : Array Field) (Q : List Value → Prop) : Prop :=
  ∀ n (cs : List Value), cs.length = fs.size → (∀ (j : Nat) (f : Field) (v : Value), fs[j]? = some f → cs[j]? = some v → ∃ y, DataW.trod enc P w base spare held n f.type [v] = some y ∧ (y.1.weights P f.type).all (· ≤ reachBytes) = true) → Q cs
theorem weightsAll_mem {e : TypeId} : ∀ {ds : List (DataW H)} {d : DataW H}, d ∈ ds → ∀ n ∈ d.weights P e, n ∈ DataW.weightsAll P e ds
  | d0 :: ds, d, h, n, hn => by
    simp only [DataW.weightsAll, List.mem_append]
    rcases List.mem_cons.1 h with rfl | h
    · exact .inl hn
    · exact .inr (weightsAll_mem h n hn)
theorem open_rowsW {t e : TypeId} {fs : Array Field} {fuel : Nat} {a : Option Addr} {len cap : Nat} {x : DataW H × List MemPlace} {Q : List Value → Prop} (ht : P.underlying t = some (.slice e)) (he : P.underlying e = some (.struct fs))
    (hone : oneCellFields P fs = true) (hC : P.cellsOf e = fs.size) (hsz : (x.1.weights P t).all (· ≤ reachBytes) = true) (hQ : FieldsSayW enc P w base spare held fs Q) (h : DataW.trod enc P w base spare held fuel t [.slice a len cap] = some x) : IsRows fs.size Q w a len ∧ len ≤ cap := by
  rcases open_slice ht h with ⟨h0, _⟩ | ⟨b, l, c, m, n, D, Pl, hcs, hb, hl, hm, hmm, hx, hi'⟩
  · simp only [List.cons.injEq, Value.slice.injEq, and_true] at h0
    exact ⟨fun i hi => by omega, by omega⟩
  · simp only [List.cons.injEq, Value.slice.injEq, and_true] at hcs
    obtain ⟨rfl, rfl, rfl⟩ := hcs
    refine ⟨fun i hi => ?_, hl⟩
    obtain ⟨cs, hc, htr⟩ := hi' i (by rw [hmm]; split <;> omega)
    have hwD : ((D i).weights P e).all (· ≤ reachBytes) = true := by
      rw [List.all_eq_true] at hsz ⊢
      intro q hq
      refine hsz q ?_
      rw [hx]
      simp only [DataW.weights, ht, List.mem_cons, List.mem_append]
      exact .inr (.inl (weightsAll_mem (List.mem_map.2 ⟨i, List.mem_range.2 hi, rfl⟩) q hq))
    obtain ⟨ys, n', _, hxe, hlen, hyl, hf⟩ := DataW.trod_struct he htr
    obtain ⟨_, hcl, hat⟩ := World.cells?_some hc
    rw [hC] at hcl hat
    refine ⟨b, cs, rfl, hcl, hQ n' cs hcl ?_, ?_⟩
    · intro j f v hj hv
      obtain ⟨ho, hk⟩ := hone_of hone j f hj
      have hjl : j < fs.size := (Array.getElem?_eq_some_iff.1 hj).1
      have h1 := hf j f hj
      have h2 : (cs.drop j).take 1 = [v] := by
        obtain ⟨hjl', hv'⟩ := List.getElem?_eq_some_iff.1 hv
        rw [List.drop_eq_getElem_cons hjl', hv']; rfl
      rw [ho, hk, h2, List.getElem?_eq_getElem (show j < ys.length by omega)] at h1
      refine ⟨_, h1, ?_⟩
      have hDe : D i = .agg (ys.map (·.1)) := by
        have := congrArg Prod.fst hxe
        simpa using this
      rw [hDe] at hwD
      simp only [DataW.weights, he] at hwD
      rw [List.all_eq_true] at hwD ⊢
      intro q hq
      refine hwD q (DataW.weights_mem_each (j := j) (t := f.type) (d := (ys[j]'(by omega)).1) ?_ ?_ q hq)
      · rw [List.getElem?_map, Array.getElem?_toList, hj]; rfl
      · rw [List.getElem?_map, List.getElem?_eq_getElem (show j < ys.length by omega)]; rfl
    · intro j v hv
      have hjl := (List.getElem?_eq_some_iff.1 hv).1
      rw [← hv, ← hat j (by omega), add_add]
/-- A slice of one-celled elements: what an element says, its cell says. -/
theorem open_cells {t e : TypeId} {fuel : Nat} {a : Option Addr} {len cap : Nat} {x : DataW H × List MemPlace} {Q : List Value → Prop} (ht : P.underlying t = some (.slice e)) (hC : P.cellsOf e = 1)
    (hQ : ∀ n v y, DataW.trod enc P w base spare held n e [v] = some y → Q [v]) (h : DataW.trod enc P w base spare held fuel t [.slice a len cap] = some x) : IsRows 1 Q w a len := by
  intro i hi
  rcases open_slice ht h with ⟨h0, _⟩ | ⟨b, l, c, m, n, D, Pl, hcs, hb, hl, hm, hmm, hx, hi'⟩
  · simp only [List.cons.injEq, Value.slice.injEq] at h0; omega
  · simp only [List.cons.injEq, Value.slice.injEq, and_true] at hcs
    obtain ⟨rfl, rfl, rfl⟩ := hcs
    obtain ⟨cs, hc, htr⟩ := hi' i (by rw [hmm]; split <;> omega)
    obtain ⟨_, hcl, hat⟩ := World.cells?_some hc
    rw [hC] at hcl hat
    obtain ⟨v, rfl⟩ : ∃ v, cs = [v] := List.length_eq_one_iff.1 hcl
    refine ⟨b, [v], rfl, rfl, hQ _ v _ htr, ?_⟩
    intro j u hu
    have hjl := (List.getElem?_eq_some_iff.1 hu).1
    rw [← hu, ← hat j hjl, add_add]
end
end Vc

/- The statement ZipFullSaid of this seat: for every input the law returns true and its arguments read as they did. No condition. -/
namespace Go.Proofs.YtfoeooddnmppnaaDoor.zipFull
open Go.ChangeShapes Go.WideShapes Go.ChangeAt Go.RowKit
open Go.ChangeMaps (open_string shut_string)
set_option linter.unusedVariables false

theorem own : ownKnob Tryd.prog.godebug = none := by kernel_rfl
theorem laidOut : laidOutB Tryd.prog = true := by kernel_rfl

set_option maxRecDepth 100000 in
theorem lifted (os : Os) (started : os.Started) (H : Type) (enc : TypeId × Value → H) :
    ReturnsInHanded {} Tryd.checked os 4 .any (fun w args => (Rows.zipFullSpec.pre enc Tryd.prog Tryd.f4 [] false w args ∧ laidMetH Tryd.prog Rows.zipFullRow.laid w) ∧ sizedMet enc Tryd.prog Tryd.f4 (OpenSpec.ofChange Rows.zipFullSpec) false w args)
      (Rows.zipFullSpec.post enc Tryd.prog Tryd.f4 false true false false) := by
  refine returnsInHanded_of_change_and (C := Tryd.checked) (X := fun w _ => laidMetH Tryd.prog Rows.zipFullRow.laid w) (fun _ _ _ hh h => h.of_heap hh) own started (by kernel_rfl) Tryd.func4
    (ChangeSpec.witness_shaped (enc := enc) (C := Tryd.checked) (os := os) (X := fun w _ => laidMetH Tryd.prog Rows.zipFullRow.laid w) false (World.laidAll Tryd.prog os Rows.zipFullRow.laid) #[.int .i64 0, .int .i64 0] 8 (World.laidAll_os _ _ _)
      (World.shaped_of_ZipB (by kernel_rfl) (by kernel_rfl)) (by kernel_rfl) (by kernel_rfl) (by kernel_rfl)
      (by rw [MakeChecks.laidMetH_plain _ _ _ (by kernel_rfl)]; exact laidMet_laidAll _ (by kernel_rfl) (by kernel_rfl))) ?_
  intro W base args ds gs before hval0 hW _ hsz hL _
  have hval : ∀ (j : Nat) t v, Tryd.f4.params[j]? = some t → args[j]? = some v → Value.okWide Tryd.prog W .any base t v := hval0
  have hW' := hW
  obtain ⟨p, q, hA0, hV, rfl, hfz, hnd⟩ := hW
  have hA : DataW.TrodAll enc Tryd.prog W 0 (fun _ => true) true Tryd.f4.params.toList args.toList ds p := hA0
  rw [Tryd.params4] at hA hval
  obtain ⟨v0, vs0, d0, ds0, p0, q0, hargs, rfl, rfl, h0, r0⟩ := trodAll_cons hA
  obtain ⟨v1, vs1, d1, ds1, p1, q1, rfl, rfl, rfl, h1, r1⟩ := trodAll_cons r0
  obtain ⟨rfl, rfl, rfl⟩ := trodAll_nil r1
  obtain rfl : args = #[v0, v1] := by cases args; simp_all
  obtain ⟨rfl, rfl⟩ := trodVars_none hV
  obtain ⟨a0, rfl, rfl, rfl, w0⟩ := open_int Tryd.underlying3 (hval 0 3 v0 rfl rfl) h0
  obtain ⟨a1, rfl, rfl, rfl, w1⟩ := open_int Tryd.underlying3 (hval 1 3 v1 rfl rfl) h1
  clear hA0 hval0
  refine (zipFull_walk a0 a1 W).mono fun e W' ⟨he, bel⟩ => ?_
  subst he
  exact ⟨_, rfl, _, _, _, [], _, [], hW', trodAll_mk1 (shut_bool Tryd.underlying4 _), (trodAll_cons_mk (shut_int Tryd.underlying3 w0) (trodAll_cons_mk (shut_int Tryd.underlying3 w1) trodAll_mk0)), rfl, bel.frame _, fun h => by cases h⟩

theorem over : Rows.zipFullRow.holds Tryd.pinned (OpenSpec.ofChange Rows.zipFullSpec) :=
  OpenClaim.holds_of_wide 4 Tryd.f4 rfl rfl rfl rfl rfl rfl rfl ⟨rfl, rfl, rfl, rfl, rfl⟩ rfl rfl rfl rfl rfl (by kernel_rfl) Tryd.func4 (by kernel_rfl)
    (of_decide_eq_true (by kernel_rfl)) (by unfold Func.isWrapper; first | (rw [if_pos (by decide +kernel)]; kernel_rfl) | (rw [if_neg (by decide +kernel)]; exact ⟨rfl, rfl⟩))
    (fun os started H enc _ => lifted os started H enc)

/-- The statement. -/
theorem proved : Rows.ZipFullCardSaid :=
  Claim7.holds_tied_plain_at .later [] [.data, .pinned] true (true, "0eb27af101e4e04535c639a375fc4637eed6172aaaeb719e4b37c29ceb5b9f04") true over (fun _ h => by cases h) (by kernel_rfl) (fun _ h => by cases h) zipFull_row_tie rfl ⟨rfl, rfl⟩ (by kernel_rfl) rfl
    (fun f fn hf hfn => by
      obtain rfl : f = 4 := Option.some.inj ((show Tryd.prog.funcNamed "cartulary/cartularylaw23.ZipFull" = some 4 by kernel_rfl).symm.trans hf) |>.symm
      obtain rfl : fn = Tryd.f4 := (Option.some.inj (Tryd.func4.symm.trans hfn)).symm
      exact ⟨by kernel_rfl, fun j t ht => by
        rw [Tryd.params4] at ht
        have hm : t ∈ [3] := by simpa using Array.mem_of_getElem? ht
        have hall : ([3].all fun u => !Tryd.prog.wantsStandIn u) = true := by kernel_rfl
        exact (show Tryd.prog.wantsStandIn t = false by simpa using List.all_eq_true.1 hall t hm)⟩)
    (by kernel_rfl)
#print axioms proved
end Go.Proofs.YtfoeooddnmppnaaDoor.zipFull
