/- Texts of this seat in one: made by a program of ours. -/
import Derived.Test.YtfoeooddnmppnaaGreatDoorCartularyArchivesUptoQ0
import Derived.Test.YtfoeooddnmppnaaGreatDoorCartularyArchivesUptoQ1
import Derived.Defers
import Derived.Test.YtfoeooddnmppnaaGreatDoorProg
import Derived.Recover
import Derived.Lib.Index
import Derived.Shelf.Strings.IndexAnyAll
/- zip.Write: the archive of stored files, or the error. Conditions: at most a hundred thousand files, texts no longer than memory. -/
set_option linter.unusedVariables false
namespace Go.Proofs.YtfoeooddnmppnaaGreatDoor
open Go Vc SumM Go.Proofs

def zipE (ys : List FileE) : ByteArray := if zchk ys = 0 then ⟨(zipL ys).toArray⟩ else ⟨#[]⟩
set_option maxHeartbeats 1600000 in
theorem zwrite_spec {w : World} {a : Option Addr} {n c : Nat} {ys : List FileE} (hr : ReadsK encF 2 w a ys) (hn : ys.length = n) (hl : n ≤ 100000) (hp : ∀ y ∈ ys, y.path.size ≤ 140737488355328) (ht : totalF ys ≤ 4611686018427387904) :
    Calls Tryz.prog F_zip_Write #[.slice a n c] w fun e w' => e = .returned (.tuple #[.string (zipE ys), .int .i64 (zchk ys)]) ∧ Fr (fun _ => False) w w' := by
  refine vc_zip_Write_ok (R := fun v w' => v = .tuple #[.string (zipE ys), .int .i64 (zchk ys)] ∧ Fr (fun _ => False) w w') ?_ (fun v w' h => ⟨by rw [h.1], h.2⟩)
  refine (zcheck_spec hr hn hl hp ht).mono ?_
  rintro e w2 ⟨rfl, hf2⟩
  refine ⟨_, rfl, fun h => ⟨?_, hf2⟩, fun h => ?_⟩
  · unfold zipE; rw [if_neg (by simpa using h)]
  have h0 : zchk ys = 0 := by simpa using h
  obtain ⟨hy600, hytot, hycl⟩ := zchk_ok h0
  have hy200 : ∀ y ∈ ys, y.path.size ≤ 200 := fun y hy => by
    have := hycl y hy
    unfold cleanB at this
    simp only [Bool.and_eq_true, decide_eq_true_eq] at this
    omega
  have hyd : ∀ y ∈ ys, y.data.size ≤ 1048576 := fun y hy => by
    have : ∀ zs : List FileE, y ∈ zs → y.data.size ≤ totalF zs := fun zs => by
      induction zs with
      | nil => intro h; simp at h
      | cons z r ih =>
        intro h
        unfold totalF at *
        rw [List.map_cons, List.sum_cons]
        rcases List.mem_cons.1 h with rfl | h
        · omega
        · have := ih h; omega
    have := this ys hy
    omega
  have hout : ∀ k, (outL (ys.take k)).length ≤ 1200000 := fun k => by
    have h1 := outL_len (B := 200) (ys.take k) fun y hy => hy200 y (List.mem_of_mem_take hy)
    have h2 := totalF_le ys k
    rw [List.length_take] at h1
    have h3 : min k ys.length * (30 + 200) ≤ 600 * 230 := Nat.mul_le_mul (by omega) (by omega)
    omega
  have hidx : ∀ k, (idxL 0 (ys.take k)).length ≤ 200000 := fun k => by
    have h1 := idxL_len (B := 200) 0 (ys.take k) fun y hy => hy200 y (List.mem_of_mem_take hy)
    rw [List.length_take] at h1
    have h3 : min k ys.length * (46 + 200) ≤ 600 * 246 := Nat.mul_le_mul (by omega) (by omega)
    omega
  intro w4 h4 w5 h5
  have hf4 : Fr (fun _ => False) w2 w4 := by rw [h4]; exact .alloc _ _ _
  have hf5 : Fr (fun _ => False) w4 w5 := by rw [h5]; exact .alloc _ _ _
  have hs4 : w4.heap.size = w2.heap.size + 1 := by rw [h4]; simp
  have ho8 : Vc.Own w5 w.heap.size T_uint8 ⟨some ⟨w2.heap.size, 0, none⟩, 0, 0⟩ (byteV []) := ((by rw [h4]; exact own_empty w2 T_uint8 : Vc.Own w4 w2.heap.size T_uint8 ⟨some ⟨w2.heap.size, 0, none⟩, 0, 0⟩ []).keep hf5 (by simp)).mono hf2.size
  have ho9 : Vc.Own w5 w.heap.size T_uint8 ⟨some ⟨w4.heap.size, 0, none⟩, 0, 0⟩ (byteV []) := (by rw [h5]; exact own_empty w4 T_uint8 : Vc.Own w5 w4.heap.size T_uint8 ⟨some ⟨w4.heap.size, 0, none⟩, 0, 0⟩ []).mono (by have := hf2.size; omega)
  have hf5' : Fr (fun _ => False) w w5 := (hf2.trans' hf4).trans' hf5
  refine ⟨fun l8 l9 i w' => ∃ k : Nat, i = k ∧ k ≤ ys.length ∧ Vc.Own w' w.heap.size T_uint8 l8 (byteV (outL (ys.take k))) ∧ Vc.Own w' w.heap.size T_uint8 l9 (byteV (idxL 0 (ys.take k))) ∧ (∀ p q, l8.a = some p → l9.a = some q → p.block ≠ q.block) ∧ Fr (fun _ => False) w w', fun _ _ i _ => ys.length - i.toNat,
    ⟨0, rfl, Nat.zero_le _, ho8, ho9, fun p q hp hq => by cases hp; cases hq; simp only; omega, hf5'⟩, ?_⟩
  clear ho8 ho9 hf5 hf4 h4 h5
  rintro l8 l9 i w11 ⟨k, rfl, hk, ho8, ho9, hdis, hf⟩
  have hl8 : l8.len = (outL (ys.take k)).length := by rw [ho8.len, bv_len]
  have hl9 : l9.len = (idxL 0 (ys.take k)).length := by rw [ho9.len, bv_len]
  have hok8 := hout k
  have hok9 := hidx k
  refine ⟨fun hlt => ?_, fun hge => ?_⟩
  · have hlt := of_decide_eq_true hlt
    have hkl : k < ys.length := by omega
    have hx : ys[k]? = some ys[k] := List.getElem?_eq_getElem hkl
    have htk : ys.take (k + 1) = ys.take k ++ [ys[k]] := (List.take_append_getElem hkl).symm
    generalize ys[k] = x at hx htk
    have hxm := List.mem_of_getElem? hx
    have hxp := hy200 x hxm
    have hxd := hyd x hxm
    obtain ⟨ad, had, hld⟩ := ((hr.keep hf (by simp)).load elF hx)
    refine ⟨⟨by omega, by omega⟩, ad, had, x.path, x.data, by rw [Int.toNat_natCast]; exact hld, fun w15 h15 => ?_⟩
    subst h15
    obtain ⟨w16, hw16⟩ : ∃ w16, w11.alloc (.cells (encF x).toArray T_api_File) = w16 := ⟨_, rfl⟩
    have hfb : Fr (fun _ => False) w11 w16 := by rw [← hw16]; exact .alloc _ _ _
    have hbx : w16.heap[w11.heap.size]? = some (.cells (encF x).toArray T_api_File (0, 0)) := by rw [← hw16]; exact alloc_new _ _
    have hp0 : ∀ w' : World, w'.heap[w11.heap.size]? = some (.cells (encF x).toArray T_api_File (0, 0)) → w'.cell? ⟨w11.heap.size, 0, none⟩ = some (.string x.path) := fun w' h => by rw [cell_blk h]; rfl
    have hp1 : ∀ w' : World, w'.heap[w11.heap.size]? = some (.cells (encF x).toArray T_api_File (0, 0)) → w'.cell? ⟨w11.heap.size, 1, none⟩ = some (.string x.data) := fun w' h => by rw [cell_blk h]; rfl
    have hkeep : ∀ {v v' : World}, v.heap[w11.heap.size]? = some (.cells (encF x).toArray T_api_File (0, 0)) → Fr (fun _ => False) v v' → v'.heap[w11.heap.size]? = some (.cells (encF x).toArray T_api_File (0, 0)) := fun h hf => hf.keep h (by simp)
    refine ⟨w16, by rw [← hw16]; exact boxF_run w11 x, fun w17 d17 => ?_⟩
    have hb17 := hkeep hbx (.drew _ d17)
    have hf17 : Fr (fun _ => False) w11 w17 := hfb.trans' (.drew _ d17)
    refine ⟨fun w' => w'.heap[w11.heap.size]? = some (.cells (encF x).toArray T_api_File (0, 0)), hb17, x.data, hp1, x.data, hp1, x.data, hp1, x.path, hp0, (crc32_spec x.data (by omega) w17).mono ?_⟩
    rintro e w28 ⟨rfl, hf28⟩
    have hcrc := (crcW x.data.data.toList).isLt
    refine ⟨_, rfl, hkeep hb17 hf28, (facts_spec 0 (crcW x.data.data.toList).toNat x.data.size x.data.size (by decide) hcrc (by omega) (by omega) x.path (by omega) w28).mono ?_⟩
    rintro e w31 ⟨rfl, hf31⟩
    have hb31 := hkeep (hkeep hb17 hf28) hf31
    have hF : ByteArray.mk (factsL 0 (crcW x.data.data.toList).toNat x.data.size x.data.size x.path.size).toArray = ⟨(factF x).toArray⟩ := rfl
    have hFs : (ByteArray.mk (factF x).toArray).size = 26 := by rw [bs_mksize]; exact factsL_len _ _ _ _ _
    have c4 : ∀ u v p q : UInt8, (ByteArray.mk #[u, v, p, q]).size = 4 := fun _ _ _ _ => rfl
    refine ⟨_, rfl, hb31, fun w33 d33 => ?_⟩
    rw [hF]
    have hb33 := hkeep hb31 (.drew _ d33)
    have hf33 : Fr (fun _ => False) w11 w33 := ((hf17.trans' hf28).trans' hf31).trans' (.drew _ d33)
    refine ⟨fun w' => w'.heap[w11.heap.size]? = some (.cells (encF x).toArray T_api_File (0, 0)), hb33, x.path, hp0, (two_spec 20 (by decide) w33).mono ?_⟩
    rintro e w38 ⟨rfl, f38⟩
    have b38 := hkeep hb33 f38
    refine ⟨_, rfl, b38, by simp only [le_size, c4]; omega, by simp only [ByteArray.size_append, le_size, c4, hFs]; omega, (two_spec 0 (by decide) w38).mono ?_⟩
    rintro e w41 ⟨rfl, f41⟩
    have b41 := hkeep b38 f41
    refine ⟨_, rfl, b41, by simp only [ByteArray.size_append, le_size, c4, hFs]; omega, (two_spec 0 (by decide) w41).mono ?_⟩
    rintro e w44 ⟨rfl, f44⟩
    have b44 := hkeep b41 f44
    refine ⟨_, rfl, b44, by simp only [ByteArray.size_append, le_size, c4, hFs]; omega, (two_spec 0 (by decide) w44).mono ?_⟩
    rintro e w47 ⟨rfl, f47⟩
    have b47 := hkeep b44 f47
    refine ⟨_, rfl, b47, by simp only [ByteArray.size_append, le_size, c4, hFs]; omega, (four_spec 0 (by decide) w47).mono ?_⟩
    rintro e w50 ⟨rfl, f50⟩
    have b50 := hkeep b47 f50
    refine ⟨_, rfl, b50, by simp only [ByteArray.size_append, le_size, c4, hFs]; omega, (four_spec l8.len (by omega) w50).mono ?_⟩
    rintro e w53 ⟨rfl, f53⟩
    have b53 := hkeep b50 f53
    have hf53 : Fr (fun _ => False) w11 w53 := (((((hf33.trans' f38).trans' f41).trans' f44).trans' f47).trans' f50).trans' f53
    have hs53 := hf53.size
    have hws := hf.size
    have ho8' := ho8.keep hf53 (by simp)
    have ho9' := ho9.keep hf53 (by simp)
    obtain ⟨Z, hZ⟩ : ∃ Z : ByteArray, ⟨#[80, 75, 1, 2]⟩ ++ ⟨(littleB 2 20).toArray⟩ ++ ⟨(factF x).toArray⟩ ++ ⟨(littleB 2 0).toArray⟩ ++ ⟨(littleB 2 0).toArray⟩ ++ ⟨(littleB 2 0).toArray⟩ ++ ⟨(littleB 4 0).toArray⟩ ++ ⟨(littleB 4 l8.len).toArray⟩ ++ x.path = Z := ⟨_, rfl⟩
    have hZl : Z.data.toList = cenL x l8.len := by
      rw [← hZ]
      simp only [bs_app, List.append_assoc]
      rfl
    have hZs : Z.size = 46 + x.path.size := by rw [← bs_len, hZl, cenL_len]
    refine ⟨_, rfl, b53, by simp only [ByteArray.size_append, le_size, c4, hFs]; omega, by simp only [ByteArray.size_append, le_size, c4, hFs]; omega, ?_⟩
    rw [hZ]
    obtain ⟨w55, l56, hr55, ho55, hf55, hs55⟩ := append_str (P := Tryz.prog) (t := T_S_uint8) (u := T_string) elByte (by kernel_rfl) ho9' Z (by rw [bv_len]; omega) (by omega)
    have b55 : w55.heap[w11.heap.size]? = some (.cells (encF x).toArray T_api_File (0, 0)) := hf55.keep b53 fun ⟨y, hy, e⟩ => by have := (ho9.blk hy).2; omega
    refine ⟨w55, l56, hr55, b55, by simp only [c4, hFs]; omega, x.path, hp0 _ b55, by simp only [ByteArray.size_append, c4, hFs]; omega, x.data, hp1 _ b55, by simp only [ByteArray.size_append, c4, hFs]; omega, ?_⟩
    obtain ⟨V, hV⟩ : ∃ V : ByteArray, ⟨#[80, 75, 3, 4]⟩ ++ ⟨(factF x).toArray⟩ ++ x.path ++ x.data = V := ⟨_, rfl⟩
    have hVl : V.data.toList = locL x := by
      rw [← hV]
      simp only [bs_app, List.append_assoc]
      rfl
    have hVs : V.size = 30 + x.path.size + x.data.size := by rw [← bs_len, hVl, locL_len]
    rw [hV]
    have ho8'' := ho8'.keep hf55 fun p hp' ⟨q, hq, e⟩ => hdis p q hp' hq e
    have hs55' := hf55.size
    obtain ⟨w59, l60, hr59, ho59, hf59, hs59⟩ := append_str (P := Tryz.prog) (t := T_S_uint8) (u := T_string) elByte (by kernel_rfl) ho8'' V (by rw [bv_len]; omega) (by omega)
    have e1 : IntKind.i64.wrap ((k : Int) + 1) = ((k + 1 : Nat) : Int) := by rw [wrap_i64 (by omega) (by omega)]; omega
    rw [e1]
    have happ : ∀ A B : List UInt8, byteV A ++ byteV B = byteV (A ++ B) := fun A B => by unfold byteV; rw [List.map_append]
    have hne56 : ∀ p q, l8.a = some p → l56.a = some q → p.block ≠ q.block := fun p q hp' hq => by
      rcases hs55 q hq with ⟨z, hz, e⟩ | h
      · rw [← e]; exact hdis p z hp' hz
      · have := (ho8'.blk hp').2; omega
    refine ⟨w59, l60, hr59, ⟨k + 1, rfl, by omega, ?_, ?_, fun p q hp' hq => ?_, ((hf.trans' hf53).trans hf55 fun q hq ⟨y, hy, e⟩ => by have := (ho9.blk hy).1; omega).trans hf59 fun q hq ⟨y, hy, e⟩ => by have := (ho8.blk hy).1; omega⟩, by dsimp only; omega⟩
    · rw [htk, outL_snoc, ← happ, ← hVl]; exact ho59
    · rw [htk, idxL_snoc, ← happ, Nat.zero_add, ← hl8, ← hZl]
      exact ho55.keep hf59 fun q hq ⟨y, hy, e⟩ => hne56 y q hy hq e.symm
    · rcases hs59 p hp' with ⟨z, hz, e⟩ | h
      · rw [← e]; exact hne56 z q hz hq
      · have := (ho55.blk hq).2; omega
  · have hge := of_decide_eq_false hge
    have hk' : k = ys.length := by omega
    rw [hk', List.take_length] at ho8 ho9 hl8 hl9 hok8 hok9
    have hn600 : n ≤ 600 := by omega
    have c4 : ∀ u v p q : UInt8, (ByteArray.mk #[u, v, p, q]).size = 4 := fun _ _ _ _ => rfl
    refine (two_spec n (by omega) w11).mono ?_
    rintro e w62 ⟨rfl, f62⟩
    refine ⟨_, rfl, (two_spec 0 (by decide) w62).mono ?_⟩
    rintro e w65 ⟨rfl, f65⟩
    refine ⟨_, rfl, by simp only [le_size, c4]; omega, (two_spec 0 (by decide) w65).mono ?_⟩
    rintro e w68 ⟨rfl, f68⟩
    refine ⟨_, rfl, by simp only [ByteArray.size_append, le_size, c4]; omega, by simp only [ByteArray.size_append, le_size, c4]; omega, by simp only [ByteArray.size_append, le_size, c4]; omega, (four_spec l9.len (by omega) w68).mono ?_⟩
    rintro e w71 ⟨rfl, f71⟩
    refine ⟨_, rfl, by simp only [ByteArray.size_append, le_size, c4]; omega, (four_spec l8.len (by omega) w71).mono ?_⟩
    rintro e w74 ⟨rfl, f74⟩
    refine ⟨_, rfl, by simp only [ByteArray.size_append, le_size, c4]; omega, (two_spec 0 (by decide) w74).mono ?_⟩
    rintro e w77 ⟨rfl, f77⟩
    have hf77 : Fr (fun _ => False) w11 w77 := ((((f62.trans' f65).trans' f68).trans' f71).trans' f74).trans' f77
    have hs77 := hf77.size
    have hws := hf.size
    have ho8' := ho8.keep hf77 (by simp)
    have ho9' := ho9.keep hf77 (by simp)
    refine ⟨_, rfl, by simp only [ByteArray.size_append, le_size, c4]; omega, ?_⟩
    obtain ⟨w79, l80, hr79, ho79, hf79, _⟩ := append_all' (P := Tryz.prog) (t := T_S_uint8) elByte ho8' l9.cap ho9'.reads (bv_one _) (by rw [bv_len, bv_len]; unfold maxLen; omega) (by rw [bv_len, bv_len]; omega) (by omega) (m := l9.len) (by rw [bv_len, hl9])
    refine ⟨w79, l80, hr79, ?_⟩
    obtain ⟨Z, hZ⟩ : ∃ Z : ByteArray, ⟨#[80, 75, 5, 6]⟩ ++ ⟨(littleB 2 0).toArray⟩ ++ ⟨(littleB 2 0).toArray⟩ ++ ⟨(littleB 2 n).toArray⟩ ++ ⟨(littleB 2 n).toArray⟩ ++ ⟨(littleB 4 l9.len).toArray⟩ ++ ⟨(littleB 4 l8.len).toArray⟩ ++ ⟨(littleB 2 0).toArray⟩ = Z := ⟨_, rfl⟩
    have hZl : Z.data.toList = endL n l9.len l8.len := by
      rw [← hZ]
      simp only [bs_app, List.append_assoc]
      rfl
    have hZs : Z.size = 22 := by rw [← hZ]; simp only [ByteArray.size_append, le_size, c4]
    rw [hZ]
    have hs79 := hf79.size
    obtain ⟨w81, l82, hr81, ho81, hf81, _⟩ := append_str (P := Tryz.prog) (t := T_S_uint8) (u := T_string) elByte (by kernel_rfl) ho79 Z (by rw [List.length_append, bv_len, bv_len]; omega) (by omega)
    have happ : ∀ A B : List UInt8, byteV A ++ byteV B = byteV (A ++ B) := fun A B => by unfold byteV; rw [List.map_append]
    rw [happ, happ] at ho81
    refine ⟨w81, l82, hr81, w81, _, bytes_str (P := Tryz.prog) (t := T_S_uint8) (d := T_string) elByte.sl (by kernel_rfl) (by kernel_rfl) l82.cap ho81.reads (by rw [ho81.len, bv_len]), ?_, ((hf.trans' hf77).trans hf79 fun q hq ⟨y, hy, e⟩ => by have := (ho8.blk hy).1; omega).trans hf81 fun q hq ⟨y, hy, e⟩ => by have := (ho79.blk hy).1; omega⟩
    unfold zipE zipL
    rw [if_pos h0, h0, hZl, hn, hl8, hl9, List.append_assoc]
end Go.Proofs.YtfoeooddnmppnaaGreatDoor

/- The reader of an archive's parts: take, number, want, head, where what is asked is there. Conditions: texts no longer than memory. -/
set_option linter.unusedVariables false
namespace Go.Proofs.YtfoeooddnmppnaaGreatDoor
open Go Vc SumM Go.Proofs

/-- The reader at block B stands at number k of s; r: what follows. -/
def RdR (w : World) (B : Nat) (s : ByteArray) (r : List UInt8) (k : Nat) : Prop := w.heap[B]? = some (.cells #[.string s, .int .i64 (k : Int)] T_zip_reader (0, 0)) ∧ s.data.toList.drop k = r ∧ k ≤ s.size
theorem RdR.keep {w w' : World} {B : Nat} {s : ByteArray} {r : List UInt8} {k : Nat} (h : RdR w B s r k) {X : Nat → Prop} (hf : Fr X w w') (hx : ¬ X B) : RdR w' B s r k := ⟨hf.keep h.1 hx, h.2⟩
theorem RdR.size {w : World} {B : Nat} {s : ByteArray} {r : List UInt8} {k : Nat} (h : RdR w B s r k) : k + r.length = s.size := by
  rw [← h.2.1, List.length_drop, bs_len]
  have := h.2.2
  omega
theorem must_spec {b : Bool} (hb : b = true) (e : Int) (w : World) : Calls Tryz.prog F_zip_must #[.bool b, .int .i64 e] w fun e w' => e = .returned (.tuple #[]) ∧ w' = w := by
  refine vc_zip_must_ok (R := fun v w' => v = .tuple #[] ∧ w' = w) ?_ (fun v w' h => ⟨by rw [h.1], h.2⟩)
  subst hb
  exact ⟨fun h => (by cases h), fun _ => ⟨rfl, rfl⟩⟩
theorem take_spec {w : World} {B : Nat} {s : ByteArray} {t r : List UInt8} {k n : Nat} (h : RdR w B s (t ++ r) k) (hn : t.length = n) (hs : s.size ≤ 4611686018427387904) :
    Calls Tryz.prog F_zip_reader_take #[.pointer (some ⟨B, 0, none⟩), .int .i64 (n : Int)] w fun e w' => e = .returned (.string ⟨t.toArray⟩) ∧ RdR w' B s r (k + n) ∧ Fr (· = B) w w' := by
  refine vc_zip_reader_take_ok (R := fun v w' => v = .string ⟨t.toArray⟩ ∧ RdR w' B s r (k + n) ∧ Fr (· = B) w w') ?_ (fun v w' h => ⟨by rw [h.1], h.2⟩)
  have hsz := h.size
  rw [List.length_append, hn] at hsz
  intro w1 d1
  have h1 := h.keep (.drew (fun _ => False) d1) (by simp)
  have c0 : ∀ {w' : World}, RdR w' B s (t ++ r) k → w'.cell? ⟨B, 0, none⟩ = some (.string s) := fun h => by rw [cell_blk h.1]; rfl
  have c1 : ∀ {w' : World}, RdR w' B s (t ++ r) k → w'.cell? ⟨B, 1, none⟩ = some (.int .i64 (k : Int)) := fun h => by rw [cell_blk h.1]; rfl
  have e0 : IntKind.i64.wrap ((s.size : Int) - (k : Int)) = ((s.size - k : Nat) : Int) := by rw [wrap_i64 (by omega) (by omega)]; omega
  refine ⟨fun w' => RdR w' B s (t ++ r) k, h1, s, fun w' h => c0 h, k, fun w' h => c1 h, (must_spec (by rw [e0]; exact decide_eq_true (by omega)) 6 w1).mono ?_⟩
  rintro e w8 ⟨rfl, rfl⟩
  have e1 : IntKind.i64.wrap ((k : Int) + (n : Int)) = ((k + n : Nat) : Int) := by rw [wrap_i64 (by omega) (by omega)]; omega
  refine ⟨rfl, k, c1 h1, wr_blk h1.1 (Nat.lt_succ_self 1), fun w10 h10 => ?_⟩
  rw [e1] at h10
  have hb : w10.heap[B]? = some (.cells #[.string s, .int .i64 ((k + n : Nat) : Int)] T_zip_reader (0, 0)) := by
    rw [h10, set_blk h1.1]; rfl
  have e2 : IntKind.i64.wrap (((k + n : Nat) : Int) - (n : Int)) = (k : Int) := by rw [wrap_i64 (by omega) (by omega)]; omega
  refine ⟨s, by rw [cell_blk hb]; rfl, ((k + n : Nat) : Int), by rw [cell_blk hb]; rfl, ((k + n : Nat) : Int), by rw [cell_blk hb]; rfl, ?_⟩
  rw [e2]
  refine ⟨⟨by omega, by omega, by omega⟩, fun w14 d14 => ⟨?_, ⟨(Fr.drew (fun _ => False) d14).keep hb (by simp), ?_, by omega⟩, ?_⟩⟩
  · congr 1
    refine bs_ext ?_
    rw [bs_extract, bs_mk, Int.toNat_natCast, Int.toNat_natCast, h.2.1, List.take_append_of_le_length (by omega), List.take_of_length_le (by omega)]
  · rw [← List.drop_drop, h.2.1, ← hn]; exact List.drop_left
  · exact ((Fr.drew _ d1).trans' (by rw [h10]; exact Fr.set (· = B) w8 (a := ⟨B, 1, none⟩) _ rfl)).trans' (.drew _ d14)
theorem want_spec {w : World} {B : Nat} {s t : ByteArray} {r : List UInt8} {k : Nat} (h : RdR w B s (t.data.toList ++ r) k) (hs : s.size ≤ 4611686018427387904) :
    Calls Tryz.prog F_zip_reader_want #[.pointer (some ⟨B, 0, none⟩), .string t] w fun e w' => e = .returned (.tuple #[]) ∧ RdR w' B s r (k + t.size) ∧ Fr (· = B) w w' := by
  refine vc_zip_reader_want_ok (R := fun v w' => v = .tuple #[] ∧ RdR w' B s r (k + t.size) ∧ Fr (· = B) w w') ?_ (fun v w' h => ⟨by rw [h.1], h.2⟩)
  refine (take_spec h (bs_len t) hs).mono ?_
  rintro e w2 ⟨rfl, h2, f2⟩
  refine ⟨_, rfl, (must_spec (by rw [bs_eq]; exact decide_eq_true (bs_self t)) 3 w2).mono ?_⟩
  rintro e w5 ⟨rfl, rfl⟩
  exact ⟨rfl, rfl, h2, f2⟩
theorem number_spec {w : World} {B : Nat} {s : ByteArray} {r : List UInt8} {k n x : Nat} (h : RdR w B s (littleB n x ++ r) k) (hn : n ≤ 4) (hx : x < 256 ^ n) (hs : s.size ≤ 4611686018427387904) :
    Calls Tryz.prog F_zip_reader_number #[.pointer (some ⟨B, 0, none⟩), .int .i64 (n : Int)] w fun e w' => e = .returned (.int .i64 (x : Int)) ∧ RdR w' B s r (k + n) ∧ Fr (· = B) w w' := by
  refine vc_zip_reader_number_ok (R := fun v w' => v = .int .i64 (x : Int) ∧ RdR w' B s r (k + n) ∧ Fr (· = B) w w') ?_ (fun v w' h => ⟨by rw [h.1], h.2⟩)
  refine (take_spec h (littleB_length n x) hs).mono ?_
  rintro e w2 ⟨rfl, h2, f2⟩
  refine ⟨_, rfl, (fromlittle_spec _ (by rw [le_size]; omega) w2).mono ?_⟩
  rintro e w5 ⟨rfl, rfl⟩
  have hp : 256 ^ n ≤ 256 ^ 4 := Nat.pow_le_pow_right (by decide) hn
  refine ⟨_, rfl, ?_, h2, f2⟩
  rw [bs_mk, numL_little n x hx, wrap_i64 (by omega) (by omega)]
theorem wantL_spec {w : World} {B : Nat} {s : ByteArray} {t : List UInt8} {r : List UInt8} {k : Nat} {z : ByteArray} (h : RdR w B s (t ++ r) k) (hz : z.data.toList = t) (hs : s.size ≤ 4611686018427387904) :
    Calls Tryz.prog F_zip_reader_want #[.pointer (some ⟨B, 0, none⟩), .string z] w fun e w' => e = .returned (.tuple #[]) ∧ RdR w' B s r (k + t.length) ∧ Fr (· = B) w w' := by
  subst hz
  rw [bs_len]
  exact want_spec h hs
def headV (m c p z n : Nat) : List Value := [.int .i64 (m : Int), .int .u32 (c : Int), .int .i64 (p : Int), .int .i64 (z : Int), .int .i64 (n : Int)]
theorem headV_one (m c p z n : Nat) : ∀ v ∈ headV m c p z n, v.oneCell' = true := fun v h => by
  simp only [headV, List.mem_cons, List.mem_nil_iff, or_false] at h
  rcases h with rfl | rfl | rfl | rfl | rfl <;> rfl
end Go.Proofs.YtfoeooddnmppnaaGreatDoor

/- The reader of a head of an archive's part, where one stands there. Conditions: texts no longer than memory. -/
set_option linter.unusedVariables false
namespace Go.Proofs.YtfoeooddnmppnaaGreatDoor
open Go Vc SumM Go.Proofs

theorem box_store {w : World} {B : Nat} {old : Array Value} {T : TypeId} (vs : List Value) (hb : w.heap[B]? = some (.cells old T (0, 0))) (hi : (Tryz.prog.info? T).map (·.size) = some vs.length) (hl : old.size = vs.length) (h1 : ∀ v ∈ vs, v.oneCell' = true) :
    ∃ w', (storeVar T ⟨B, 0, none⟩ (.agg vs.toArray)).run Tryz.prog w = .ok () w' ∧ w'.heap[B]? = some (.cells vs.toArray T (0, 0)) ∧ Fr (· = B) w w' := by
  have h1' : vs.toArray.all (·.oneCell') = true := by rw [List.all_toArray]; exact List.all_eq_true.2 h1
  exact ⟨_, run_storeVar_row w B T T old vs.toArray hb (by simpa using hi) (by simpa using hl) h1', setRow_heap w B old vs.toArray T _ hb, ⟨rfl, rfl, rfl, by simp [World.setRow], fun q _ hq => setRow_other w B q _ hq⟩⟩
theorem box_load {w : World} {B : Nat} {T : TypeId} {vs : List Value} (hb : w.heap[B]? = some (.cells vs.toArray T (0, 0))) (hu : aggB Tryz.prog T = true) (hi : (Tryz.prog.info? T).map (·.size) = some vs.length) :
    (loadVar T ⟨B, 0, none⟩).run Tryz.prog w = .ok (.agg vs.toArray) w :=
  load_agg (agg_of hu) hi fun k v hv => by
    rw [show (⟨B, 0, none⟩ : Addr).add k = ⟨B, k, none⟩ by rw [add_lit, Nat.zero_add], cell_blk hb]
    simpa using hv
theorem head_spec {w : World} {B : Nat} {s : ByteArray} {r : List UInt8} {k m c p z n : Nat} (h : RdR w B s (factsL m c p z n ++ r) k) (hm : m < 65536) (hc : c < 4294967296) (hp : p < 4294967296) (hz : z < 4294967296) (hn : n < 65536) (hs : s.size ≤ 4611686018427387904) :
    Calls Tryz.prog F_zip_reader_head #[.pointer (some ⟨B, 0, none⟩)] w fun e w' => e = .returned (.agg (headV m c p z n).toArray) ∧ RdR w' B s r (k + 26) ∧ Fr (· = B) w w' := by
  refine vc_zip_reader_head_ok (R := fun v w' => v = .agg (headV m c p z n).toArray ∧ RdR w' B s r (k + 26) ∧ Fr (· = B) w w') ?_ (fun v w' h => ⟨by rw [h.1], h.2⟩)
  have hr0 : factsL m c p z n ++ r = (littleB 2 20 ++ littleB 2 0) ++ (littleB 2 m ++ ((littleB 2 0 ++ littleB 2 0) ++ (littleB 4 c ++ (littleB 4 p ++ (littleB 4 z ++ (littleB 2 n ++ (littleB 2 0 ++ r))))))) := by
    unfold factsL; simp only [List.append_assoc]
  rw [hr0] at h
  have hB := lt_blk h.1
  intro w1 h1
  have f1 : Fr (· = B) w w1 := by rw [h1]; exact .alloc _ _ _
  have s1 : w1.heap.size = w.heap.size + 1 := by rw [h1]; simp
  have hA1 : w1.heap[w.heap.size]? = some (.cells #[.int .i64 0, .int .u32 0, .int .i64 0, .int .i64 0, .int .i64 0] T_zip_head (0, 0)) := by rw [h1]; exact alloc_new _ _
  have hr1 := h.keep (by rw [h1]; exact Fr.alloc (fun _ => False) _ _ : Fr (fun _ => False) w w1) (by simp)
  clear h1
  refine (two_spec 20 (by decide) w1).mono ?_
  rintro e w3 ⟨rfl, f3⟩
  refine ⟨_, rfl, (two_spec 0 (by decide) w3).mono ?_⟩
  rintro e w6 ⟨rfl, f6⟩
  refine ⟨_, rfl, by simp only [le_size]; omega, (wantL_spec (hr1.keep (f3.trans' f6) (by simp)) (by simp only [bs_app]) hs).mono ?_⟩
  rintro e w9 ⟨rfl, r9, f9⟩
  refine ⟨rfl, (number_spec r9 (by decide) hm hs).mono ?_⟩
  rintro e w11 ⟨rfl, r11, f11⟩
  have f1_11 : Fr (· = B) w1 w11 := (((f3.mono fun _ _ h => h.elim).trans' (f6.mono fun _ _ h => h.elim)).trans' f9).trans' f11
  have hs11 := f1_11.size
  have hA11 := f1_11.keep hA1 (by omega)
  refine ⟨_, rfl, fun w13 h13 => ?_⟩
  have f13 : Fr (fun _ => False) w11 w13 := by rw [h13]; exact .alloc _ _ _
  have s13 : w13.heap.size = w11.heap.size + 1 := by rw [h13]; simp
  have hC13 : w13.heap[w11.heap.size]? = some (.cells #[.int .i64 0, .int .u32 0, .int .i64 0, .int .i64 0, .int .i64 0] T_zip_head (0, 0)) := by rw [h13]; exact alloc_new _ _
  clear h13
  obtain ⟨w14, hrun14, hC14, f14⟩ := box_store [.int .i64 (m : Int), .int .u32 0, .int .i64 0, .int .i64 0, .int .i64 0] hC13 (by kernel_rfl) rfl (fun v hv => by
    simp only [List.mem_cons, List.mem_nil_iff, or_false] at hv
    rcases hv with rfl | rfl | rfl | rfl | rfl <;> rfl)
  generalize w11.heap.size = C at *
  have hCB : ¬ B = C := by omega
  have hCA : ¬ w.heap.size = C := by omega
  refine ⟨w14, hrun14, (two_spec 0 (by decide) w14).mono ?_⟩
  rintro e w16 ⟨rfl, f16⟩
  refine ⟨_, rfl, (two_spec 0 (by decide) w16).mono ?_⟩
  rintro e w19 ⟨rfl, f19⟩
  have r14 := (r11.keep f13 (by simp)).keep f14 hCB
  refine ⟨_, rfl, by simp only [le_size]; omega, (wantL_spec (r14.keep (f16.trans' f19) (by simp)) (by simp only [bs_app]) hs).mono ?_⟩
  rintro e w22 ⟨rfl, r22, f22⟩
  refine ⟨rfl, (number_spec r22 (by decide) hc hs).mono ?_⟩
  rintro e w24 ⟨rfl, r24, f24⟩
  have f14_24 : Fr (· = B) w14 w24 := (((f16.mono fun _ _ h => h.elim).trans' (f19.mono fun _ _ h => h.elim)).trans' f22).trans' f24
  have hC24 := f14_24.keep hC14 (fun h => hCB h.symm)
  have hA24 := f14_24.keep (f14.keep (f13.keep hA11 (by simp)) hCA) (by omega)
  refine ⟨_, rfl, ?_⟩
  rw [wrap_u32 (by omega) (by omega)]
  refine ⟨wr_blk hC24 (Nat.lt_of_lt_of_eq (by decide : 1 < 5) rfl), fun w26 h26 => ?_⟩
  have hC26 : w26.heap[C]? = some (.cells #[.int .i64 (m : Int), .int .u32 (c : Int), .int .i64 0, .int .i64 0, .int .i64 0] T_zip_head (0, 0)) := by rw [h26, set_blk hC24]; rfl
  have f26 : Fr (· = C) w24 w26 := by rw [h26]; exact Fr.set (· = C) w24 (a := ⟨C, 1, none⟩) _ rfl
  refine (number_spec (r24.keep f26 hCB) (by decide) hp hs).mono ?_
  rintro e w28 ⟨rfl, r28, f28⟩
  refine ⟨_, rfl, (number_spec r28 (by decide) hz hs).mono ?_⟩
  rintro e w31 ⟨rfl, r31, f31⟩
  refine ⟨_, rfl, (number_spec r31 (by decide) hn hs).mono ?_⟩
  rintro e w34 ⟨rfl, r34, f34⟩
  have f26_34 : Fr (· = B) w26 w34 := (f28.trans' f31).trans' f34
  have hC34 := f26_34.keep hC26 (fun h => hCB h.symm)
  have hA34 := f26_34.keep (f26.keep hA24 hCA) (by omega)
  refine ⟨_, rfl, wr_blk hC34 (Nat.lt_of_lt_of_eq (by decide : 2 < 5) rfl), fun w36 h36 => ?_⟩
  have hC36 : w36.heap[C]? = some (.cells #[.int .i64 (m : Int), .int .u32 (c : Int), .int .i64 (p : Int), .int .i64 0, .int .i64 0] T_zip_head (0, 0)) := by rw [h36, set_blk hC34]; rfl
  have f36 : Fr (· = C) w34 w36 := by rw [h36]; exact Fr.set (· = C) w34 (a := ⟨C, 2, none⟩) _ rfl
  refine ⟨wr_blk hC36 (Nat.lt_of_lt_of_eq (by decide : 3 < 5) rfl), fun w37 h37 => ?_⟩
  have hC37 : w37.heap[C]? = some (.cells #[.int .i64 (m : Int), .int .u32 (c : Int), .int .i64 (p : Int), .int .i64 (z : Int), .int .i64 0] T_zip_head (0, 0)) := by rw [h37, set_blk hC36]; rfl
  have f37 : Fr (· = C) w36 w37 := by rw [h37]; exact Fr.set (· = C) w36 (a := ⟨C, 3, none⟩) _ rfl
  refine ⟨wr_blk hC37 (Nat.lt_of_lt_of_eq (by decide : 4 < 5) rfl), fun w38 h38 => ?_⟩
  have hC38 : w38.heap[C]? = some (.cells (headV m c p z n).toArray T_zip_head (0, 0)) := by rw [h38, set_blk hC37]; rfl
  have f38 : Fr (· = C) w37 w38 := by rw [h38]; exact Fr.set (· = C) w37 (a := ⟨C, 4, none⟩) _ rfl
  have f34_38 := (f36.trans' f37).trans' f38
  refine (two_spec 0 (by decide) w38).mono ?_
  rintro e w40 ⟨rfl, f40⟩
  refine ⟨_, rfl, (wantL_spec ((r34.keep f34_38 hCB).keep f40 (by simp)) (by rw [bs_mk]) hs).mono ?_⟩
  rintro e w43 ⟨rfl, r43, f43⟩
  have hC43 := f43.keep (f40.keep hC38 (by simp)) (fun h => hCB h.symm)
  have hA43 := f43.keep (f40.keep (f34_38.keep hA34 hCA) (by simp)) (by omega)
  obtain ⟨w49, hrun49, hA49, f49⟩ := box_store (headV m c p z n) hA43 (by kernel_rfl) rfl (headV_one m c p z n)
  refine ⟨rfl, m, c, p, z, n, box_load hC43 (by kernel_rfl) (by kernel_rfl), w49, hrun49, m, c, p, z, n, box_load hA49 (by kernel_rfl) (by kernel_rfl), rfl, ?_, ?_⟩
  · have := r43.keep f49 (by omega)
    simp only [List.length_append, littleB_length] at this
    rwa [show k + (2 + 2) + 2 + (2 + 2) + 4 + 4 + 4 + 2 + 2 = k + 26 by omega] at this
  · have g1 : Fr (· = B) w w24 := ((f1.trans' f1_11).trans' (f13.mono fun _ _ h => h.elim)).trans ((f14.mono (Y := fun q => q = B ∨ q = C) fun _ _ h => .inr h).trans' (f14_24.mono fun _ _ h => .inl h)) fun q hq h => h.resolve_right (by omega)
    have g2 : Fr (fun q => q = B ∨ q = C) w24 w43 := (((f26.mono (Y := fun q => q = B ∨ q = C) fun _ _ h => .inr h).trans' (f26_34.mono fun _ _ h => .inl h)).trans' (f34_38.mono fun _ _ h => .inr h)).trans' ((f40.mono fun _ _ h => h.elim).trans' (f43.mono fun _ _ h => .inl h))
    exact (g1.trans g2 fun q hq h => h.resolve_right (by omega)).trans f49 fun q hq h => by omega
end Go.Proofs.YtfoeooddnmppnaaGreatDoor

/- The bytes of an archive's entry, where they are right. Conditions: texts no longer than memory; what is inflated is told by the caller. -/
set_option linter.unusedVariables false
namespace Go.Proofs.YtfoeooddnmppnaaGreatDoor
open Go Vc SumM Go.Proofs

/-- An entry's bytes are kept in one of the two ways. -/
def UnpZ (x : EntZ) : Prop := x.data.size ≤ 1048576 ∧ x.packed.size ≤ 2097152 ∧ (x.method = 0 ∧ x.packed = x.data ∨
  x.method = 8 ∧ x.data.size ≤ 65536 ∧ ∀ w : World, Calls Tryz.prog F_inflate_Inflate #[.string x.packed, .int .i64 0, .int .i64 (x.data.size : Int)] w fun e w' => e = .returned (.tuple #[.string x.data, .int .i64 (x.packed.size : Int), .int .i64 0]) ∧ Fr (fun _ => False) w w')
def headZ (x : EntZ) : List Value := headV x.method (crcW x.data.data.toList).toNat x.packed.size x.data.size x.path.size
def encT (x : EntZ × Nat) : List Value := headZ x.1 ++ [.string x.1.path, .int .i64 (x.2 : Int)]
theorem encT_one (x : EntZ × Nat) : ∀ v ∈ encT x, v.oneCell' = true := fun v h => by
  unfold encT at h
  rcases List.mem_append.1 h with h | h
  · exact headV_one _ _ _ _ _ v h
  · simp only [List.mem_cons, List.mem_nil_iff, or_false] at h
    rcases h with rfl | rfl <;> rfl
theorem sto_unp {f : FileE} (h : f.data.size ≤ 1048576) : UnpZ (stoZ f) := ⟨h, by unfold stoZ; simp only; omega, .inl ⟨rfl, rfl⟩⟩
theorem unpack_spec (x : EntZ) (off : Nat) (hx : UnpZ x) (w : World) :
    Calls Tryz.prog F_zip_entry_unpack #[.agg (encT (x, off)).toArray, .string x.packed] w fun e w' => e = .returned (.string x.data) ∧ Fr (fun _ => False) w w' := by
  refine vc_zip_entry_unpack_ok (x0_0 := x.method) (x0_1 := (crcW x.data.data.toList).toNat) (x0_2 := x.packed.size) (x0_3 := x.data.size) (x0_4 := x.path.size) (x0_5 := x.path) (x0_6 := off) (R := fun v w' => v = .string x.data ∧ Fr (fun _ => False) w w') ?_ (fun v w' h => ⟨by rw [h.1], h.2⟩)
  obtain ⟨hd, hpk, hm⟩ := hx
  intro w1 h1
  have f1 : Fr (fun _ => False) w w1 := by rw [h1]; exact .alloc _ _ _
  have hb1 : w1.heap[w.heap.size]? = some (.cells (encT (x, off)).toArray T_zip_entry (0, 0)) := by rw [h1]; exact alloc_new _ _
  have hc : ∀ {w' : World}, Fr (fun _ => False) w1 w' → ∀ {j : Nat} {v : Value}, (encT (x, off))[j]? = some v → w'.cell? ⟨w.heap.size, j, none⟩ = some v := fun hf j v hv => by
    rw [cell_blk (hf.keep hb1 (by simp))]; simpa using hv
  clear h1
  refine ⟨fun s w' => s = x.data ∧ Fr (fun _ => False) w1 w', ⟨x.method, hc (.refl _ _) (j := 0) rfl, ?_⟩, ?_⟩
  · rcases hm with ⟨hm, hp⟩ | ⟨hm, hsz, hinf⟩
    · refine ⟨fun _ => ⟨x.packed.size, hc (.refl _ _) (j := 2) rfl, x.data.size, hc (.refl _ _) (j := 3) rfl, (must_spec (by rw [hp]; simp) 3 w1).mono ?_⟩, fun h => ?_⟩
      · rintro e w7 ⟨rfl, rfl⟩
        exact ⟨rfl, hp, .refl _ _⟩
      · rw [hm] at h; exact absurd h (by decide)
    · refine ⟨fun h => ?_, fun _ => ⟨fun _ => ⟨x.data.size, hc (.refl _ _) (j := 3) rfl, (must_spec (decide_eq_true (by omega)) 2 w1).mono ?_⟩, fun h => ?_⟩⟩
      · rw [hm] at h; exact absurd h (by decide)
      · rintro e w10 ⟨rfl, rfl⟩
        refine ⟨rfl, x.data.size, hc (.refl _ _) (j := 3) rfl, (hinf w10).mono ?_⟩
        rintro e w13 ⟨rfl, f13⟩
        refine ⟨_, _, _, rfl, fun _ => ⟨fun _ => ⟨x.data.size, hc f13 (j := 3) rfl, (must_spec (by simp) 3 w13).mono ?_⟩, fun h => ?_⟩, fun h => absurd h (by decide)⟩
        · rintro e w19 ⟨rfl, rfl⟩
          exact ⟨rfl, rfl, f13⟩
        · simp at h
      · rw [hm] at h; exact absurd h (by decide)
  · rintro s w25 ⟨rfl, f25⟩ w26 d26
    refine ⟨fun w' => Fr (fun _ => False) w1 w', f25.trans' (.drew _ d26), _, fun w29 h29 => hc h29 (j := 1) rfl, (crc32_spec x.data (by omega) w26).mono ?_⟩
    rintro e w31 ⟨rfl, f31⟩
    have f1_31 := (f25.trans' (.drew _ d26)).trans' f31
    refine ⟨_, rfl, f1_31, (must_spec (by simp) 5 w31).mono ?_⟩
    rintro e w34 ⟨rfl, rfl⟩
    exact ⟨rfl, rfl, f1.trans' f1_31⟩
theorem elT : ElK encT 7 Tryz.prog T_S_zip_entry T_zip_entry (.agg #[.int .i64 0, .int .u32 0, .int .i64 0, .int .i64 0, .int .i64 0, .string ⟨#[]⟩, .int .i64 0]) 64 :=
  ⟨by kernel_rfl, by kernel_rfl, rfl, by decide, by kernel_rfl, fun _ => rfl, encT_one⟩
end Go.Proofs.YtfoeooddnmppnaaGreatDoor

/- Functions that defer one closure behind some first statements: their formula, and that it is enough. No condition: for all programs. -/
set_option linter.unusedVariables false
namespace Vc
open Go

/-- A region that makes a closure and defers its call. -/
def deferOf : Code → Option (List Oper × Oper × Operand)
  | .region _ ops false => match ops.toList with
    | [o1, ⟨none, .defer ⟨.value x, args, _⟩, _, _, _, none⟩] => match args.toList with
      | [] => some (ops.toList, o1, x)
      | _ => none
    | _ => none
  | _ => none
theorem deferOf_spec {c : Code} {l : List Oper} {o1 : Oper} {x : Operand} (h : deferOf c = some (l, o1, x)) :
    ∃ id ops o2 args tys, c = .region id ops false ∧ l = ops.toList ∧ ops.toList = [o1, o2] ∧ o2.dst = none ∧ o2.op = .defer ⟨.value x, args, tys⟩ ∧ args.toList = [] ∧ o2.guard = none := by
  unfold deferOf at h
  split at h
  · rename_i id ops
    split at h
    · rename_i o1' x' args tys ty pos after hl
      split at h
      · rename_i ha
        simp only [Option.some.injEq, Prod.mk.injEq] at h
        obtain ⟨rfl, rfl, rfl⟩ := h
        exact ⟨id, ops, _, args, tys, rfl, rfl, hl, rfl, rfl, ha, rfl⟩
      · cases h
    · cases h
  · cases h
section
variable (P : Program) (ty : Nat → Sh) (N : Nat) (ann : Ann)
/-- The formula of such a function's body; K knows what is deferred. -/
def WD : Code → Env → World → (Option (FuncId × Array Value) → Ex → Env → World → Prop) → Prop
  | .seq x y, e, w, K => match deferOf x with
    | some (ops, o1, z) => wOps P ty N .full ops [o1] e w fun e' w' => match has e' z with
      | false => False
      | true => match pureRun P (Deferred.ofValue (vl e' z) #[]) with
        | some d => match d.target with
          | .fn _ _ => match pureRun P (invoke d.target d.args) with
            | some (.enter f args) => W P ty N ann y e' w' fun x e'' w'' => K (some (f, args)) x e'' w''
            | _ => False
          | _ => False
        | none => False
    | none => W P ty N ann x e w fun x' e' w' => match x' with
      | .n => WD y e' w' K
      | x' => K none x' e' w'
  | _, _, _, _ => False
end
theorem WD_sound {P : Program} {ty : Nat → Sh} {N : Nat} {ann : Ann} (hm : P.follows .mixedOrders = true) : ∀ (c : Code) (e : Env) (w : World) (K : Option (FuncId × Array Value) → Ex → Env → World → Prop), WD P ty N ann c e w K →
    ∀ (a : Act) (Q : Exit → Act → World → Prop), Sub [] N e a → (∀ x e' w' a', K none x e' w' → Sub [] N e' a' → Q x.exit a' w') →
    (∀ f args d x e' w' a', K (some (f, args)) x e' w' → pureRun P (invoke d.target d.args) = some (.enter f args) → (∃ fv cap, d.target = .fn fv cap) → Sub [d] N e' a' → Q x.exit a' w') → c.wp P Q a w
  | .seq x y, e, w, K, h, a, Q, hs, hk, hd => by
    simp only [WD] at h
    split at h
    · rename_i l o1 z hdo
      obtain ⟨id, ops, o2, args, tys, rfl, rfl, hl, hdst, hop, hargs, hg⟩ := deferOf_spec hdo
      refine wp_seq (wp_region_list ?_)
      have step2 : ∀ (e' : Env) (w' : World) (a' : Act), Sub [] N e' a' → (match has e' z with
          | false => False
          | true => match pureRun P (Deferred.ofValue (vl e' z) #[]) with
            | some d => match d.target with
              | .fn _ _ => match pureRun P (invoke d.target d.args) with
                | some (.enter f args) => W P ty N ann y e' w' fun x e'' w'' => K (some (f, args)) x e'' w''
                | _ => False
              | _ => False
            | none => False) → wpList P ops (Exit.then (y.wp P Q) Q) [o2] a' w' := by
        intro e' w' a' hs' h'
        have hwant : Region.wanted o2 (yielded ops a'.tmps) = true := by simp [Region.wanted, hg]
        unfold wpList
        rw [if_pos hwant]
        refine .inl ?_
        split at h'
        · exact h'.elim
        rename_i hhas
        split at h'
        · rename_i d hpd
          split at h'
          · rename_i fv cap htar
            split at h'
            · rename_i f fargs hpi
              have hev : a'.eval z = vl e' z := hs'.vl hhas
              have hrun : (execOp a'.eval o2).run P w' = .ok (.defer d) w' := by
                have hr := pureRun_spec hpd w'
                have ha0 : args = #[] := by cases args; simp_all
                simp [execOp, hop, resolve, ha0, hev, hr, Result.andThen]
              unfold Oper.wp
              rw [hrun, Oper.upon_defer, hdst]
              unfold wpList
              have hsd : Sub [d] N e' { a' with defers := d :: a'.defers } := ⟨hs'.size, by rw [hs'.defers], hs'.at_⟩
              exact W_sound hm y e' w' _ h' _ Q hsd fun x e'' w'' a'' g1 _ g3 => hd f fargs d x e'' w'' a'' g1 hpi ⟨fv, cap, htar⟩ g3
            · exact h'.elim
          · exact h'.elim
        · exact h'.elim
      rw [hl]
      rw [hl] at h
      refine wGuard_open h hs (fun e1 he hs1 hw h => ?_) (fun e1 he hs1 hf hw h => ?_)
      · rw [← hl] at hw
        have hw : Region.wanted o1 (yielded ops a.tmps) = true := by simpa using hw
        unfold wpList; rw [if_pos hw]
        exact .inl (wStep_sound h hs1 fun v w' a' hh hs' => step2 _ w' a' hs' hh)
      · rw [← hl] at hw
        have hw : Region.wanted o1 (yielded ops a.tmps) = false := by simpa using hw
        unfold wpList; rw [if_neg (by simp [hw])]
        exact step2 _ w _ (hs1.put (v := (undef, false)) hf) h
    · refine wp_seq (W_sound hm x e w _ h a _ hs fun x e' w' a' h1 h2 h3 => ?_)
      cases x with
      | n => exact WD_sound hm y e' w' K h1 a' Q h3 hk hd
      | x i => exact hk (.x i) _ _ _ h1 h3
      | g i => exact hk (.g i) _ _ _ h1 h3
      | r => exact hk .r _ _ _ h1 h3
  | .skip, e, w, K, h, _, _, _, _, _ => h.elim
  | .region .., e, w, K, h, _, _, _, _, _ => h.elim
  | .cond .., e, w, K, h, _, _, _, _, _ => h.elim
  | .block .., e, w, K, h, _, _, _, _, _ => h.elim
  | .loop .., e, w, K, h, _, _, _, _, _ => h.elim
  | .exit .., e, w, K, h, _, _, _, _, _ => h.elim
  | .label .., e, w, K, h, _, _, _, _, _ => h.elim
  | .goto .., e, w, K, h, _, _, _, _, _ => h.elim
  | .ret, e, w, K, h, _, _, _, _, _ => h.elim
  | .rangeFunc .., e, w, K, h, _, _, _, _, _ => h.elim
  | .refuse .., e, w, K, h, _, _, _, _, _ => h.elim
  | .scope .., e, w, K, h, _, _, _, _, _ => h.elim
section
variable (P : Program) (ty : Nat → Sh) (ann : Ann)
/-- What the deferred closure is to do where the function returns: return itself, and leave behind what the function hands back. -/
def BodyD (fn : Func) (c : Code) (args : List (Value × Bool)) (w : World) (R : Value → World → Prop) : Prop :=
  WD P ty fn.ntmps ann c (envOf args 0) w fun D x e w' =>
    (match x with
    | .n | .r => match D with
      | none => answer P ty fn R e w'
      | some (f, fargs) => CallsD P f fargs .returning w' fun en u w'' => (∃ v, en = .returned v) ∧ u = .returning ∧ answer P ty fn R e w''
    | _ => False)
end
/-- THE FORMULA IS ENOUGH. -/
theorem calls_of_bodyD {P : Program} {ty : Nat → Sh} {ann : Ann} {f : FuncId} {fn : Func} {c : Code} {vs : List (Value × Bool)} {w : World} {R : Value → World → Prop} {R' : Ending → World → Prop}
    (hm : P.follows .mixedOrders = true) (hf : P.funcs[f]? = some fn) (hb : fn.body = some c) (hn : Nat.ble vs.length fn.ntmps = true)
    (h : BodyD P ty ann fn c vs w R) (hR : ∀ v w', R v w' → R' (.returned v) w') : Calls P f (firsts vs).toArray w R' := by
  have hlen : ∀ l : List (Value × Bool), (firsts l).length = l.length := fun l => by induction l with
    | nil => rfl
    | cons v r ih => simp [firsts, ih]
  have hn' : vs.length ≤ fn.ntmps := Nat.le_of_ble_eq_true hn
  have out : ∀ (D : List Deferred) (e : Env) (a : Act) (w' : World), Sub D fn.ntmps e a → answer P ty fn R e w' → ∃ v, (results fn a.tmps).run P w' = .ok v w' ∧ R' (.returned v) w' := fun D e a w' hs h1 => by
    obtain ⟨vs, hR1, hl, hv⟩ := ans_out hs _ _ h1
    refine ⟨tupled vs, ?_, hR _ _ hR1⟩
    have hmap := run_mapM (P := P) (w := w') hl hv
    have hres : results fn a.tmps = (fn.results.mapM (resAt a.tmps)) >>= fun vs => pure (if h : vs.size = 1 then vs[0] else .tuple vs) := by
      unfold results; congr 1
    rw [hres, Array.mapM_eq_mapM_toList]
    simp only [Sem.run_bind, Sem.run_map, hmap]
    match vs with
    | [] => rfl
    | [v] => rfl
    | v :: u :: r => rfl
  have hsub : Sub [] fn.ntmps (envOf vs 0) { tmps := (firsts vs).toArray ++ Array.replicate (fn.ntmps - (firsts vs).toArray.size) undef, defers := [] } := by
    refine ⟨by simp [hlen]; omega, rfl, fun t v hv => ?_⟩
    obtain ⟨_, h2⟩ := get_envOf vs 0 t v hv
    have h2' : (firsts vs)[t]? = some v.1 := by simpa using h2
    have hlt := (List.getElem?_eq_some_iff.1 h2').1
    simp only
    rw [Array.getElem?_append_left (by simpa using hlt)]
    simpa using h2'
  refine calls_of_wp_defers hf hb (WD_sound hm c _ w _ h _ _ hsub (fun x e' w' a' h1 h3 => ?_) (fun g args d x e' w' a' h1 hi ⟨fv, cap, ht⟩ h3 => ?_))
  · have key : answer P ty fn R e' w' → Leaves P fn a'.tmps R' a'.defers .returning w' := fun h1 => by
      rw [h3.defers]
      exact out _ _ _ _ h3 h1
    cases x with
    | n => exact key h1
    | r => exact key h1
    | x i => exact h1.elim
    | g i => exact h1.elim
  · have key : (CallsD P g args .returning w' fun en u w'' => (∃ v, en = .returned v) ∧ u = .returning ∧ answer P ty fn R e' w'') → Leaves P fn a'.tmps R' a'.defers .returning w' := fun h1 => by
      rw [h3.defers]
      obtain ⟨dt, da⟩ := d
      simp only at ht
      subst ht
      refine leaves_cons (by simp) (pureRun_spec hi w') (h1.mono fun en u w'' ⟨⟨v, hv⟩, hu, ha⟩ => ?_)
      subst hv hu
      exact out _ _ _ _ h3 ha
    cases x with
    | n => exact key h1
    | r => exact key h1
    | x i => exact h1.elim
    | g i => exact h1.elim
end Vc

/- The closure that zip.Read defers, where Read returns: it turns nothing. No condition. -/
set_option linter.unusedVariables false
namespace Vc
open Go
section
variable {P : Program} {ops : Array Oper} {Q : Exit → Act → List Frame → World → Prop}
/-- An operation that asks nothing of the world. -/
def stepS (P : Program) (ops : Array Oper) (i : Nat) (a : Act) : Option Act := match ops[i]? with
  | none => none
  | some o => match Region.wanted o (yielded ops a.tmps) with
    | false => none
    | true => match pureRun P (execOp a.eval o) with
      | some (.value v) => some (a.put o.dst v)
      | _ => none
def stepsS (P : Program) (ops : Array Oper) : List Nat → Act → Option Act
  | [], a => some a
  | i :: r, a => match stepS P ops i a with
    | some a' => stepsS P ops r a'
    | none => none
theorem stepS_spec {i : Nat} {a a' : Act} (h : stepS P ops i a = some a') {rest : List Nat} {cs : List Frame} {w : World} (hq : wpOpsS P ops Q rest a' cs w) : wpOpsS P ops Q (i :: rest) a cs w := by
  unfold stepS at h
  unfold wpOpsS
  split at h
  · cases h
  rename_i o ho
  simp only [ho]
  split at h
  · cases h
  rename_i hw
  rw [if_pos hw]
  split at h
  · rename_i v hv
    cases h
    rw [pureRun_spec hv w]
    exact hq
  · cases h
theorem stepsS_spec : ∀ {l : List Nat} {a a' : Act} (h : stepsS P ops l a = some a') {cs : List Frame} {w : World} (hq : Q .normal a' cs w), wpOpsS P ops Q l a cs w
  | [], a, a', h, cs, w, hq => by cases h; exact hq
  | i :: r, a, a', h, cs, w, hq => by
    simp only [stepsS] at h
    split at h
    · rename_i b hb
      exact stepS_spec hb (stepsS_spec h hq)
    · cases h
/-- recover. -/
theorem recS_spec {i : Nat} {o : Oper} {ct : Array TypeId} (hi : ops[i]? = some o) (ho : o.op = .call ⟨.builtin .recover, #[], ct⟩) (hg : o.guard = none) {rest : List Nat} {a a' : Act} {cs cs' : List Frame} {w : World}
    (h : (match recoverD cs with | some (v, cs'') => a' = a.put o.dst v ∧ cs' = cs'' | none => a' = a.put o.dst .nilIface ∧ cs' = cs)) (hq : wpOpsS P ops Q rest a' cs' w) : wpOpsS P ops Q (i :: rest) a cs w := by
  unfold wpOpsS
  simp only [hi]
  rw [if_pos (by simp [Region.wanted, hg])]
  have hr : (execOp a.eval o).run P w = .ok .recover w := by
    simp [execOp, ho, resolve]
    rfl
  rw [hr]
  simp only
  cases hc : recoverD cs with
  | none =>
    simp only [hc] at h
    obtain ⟨rfl, rfl⟩ := h
    exact hq
  | some p =>
    obtain ⟨v, cs''⟩ := p
    simp only [hc] at h
    obtain ⟨rfl, rfl⟩ := h
    exact hq
end
end Vc
namespace Go.Proofs.YtfoeooddnmppnaaGreatDoor
open Go Vc Go.Proofs
set_option maxRecDepth 100000
theorem catch_idle (p q : Addr) (w : World) :
    CallsD Tryz.prog F_zip_Read_1 #[.pointer (some p), .pointer (some q)] .returning w fun e u w' => e = .returned (.tuple #[]) ∧ u = .returning ∧ w' = w := by
  refine callsD_of_wpS Tryz.func37 rfl fun c₀ cs hu => ?_
  have hz : ({ c₀ with mode := .returning } : Frame) = c₀ := by cases c₀; simp only at hu; subst hu; rfl
  refine wpS_seq (wpS_region ?_)
  show wpOpsS _ _ _ [0, 1, 2, 3, 4, 5, 6] _ _ _
  refine recS_spec (a' := ⟨#[.pointer (some p), .pointer (some q), undef, undef, undef, .nilIface, undef, undef, undef, undef, undef], []⟩) (cs' := c₀ :: cs) rfl rfl rfl ?_ ?_
  · rw [show recoverD (c₀ :: cs) = none by unfold recoverD; simp only [hu]]
    exact ⟨by kernel_rfl, rfl⟩
  refine stepsS_spec (a' := ⟨#[.pointer (some p), .pointer (some q), .int .i64 0, .bool false, .tuple #[.int .i64 0, .bool false], .nilIface, .tuple #[.int .i64 0, .bool false], .int .i64 0, .bool false, undef, undef], []⟩) (by kernel_rfl) ?_
  refine wpS_seq (wpS_region ?_)
  show wpOpsS _ _ _ [0] _ _ _
  refine stepsS_spec (a' := ⟨#[.pointer (some p), .pointer (some q), .int .i64 0, .bool false, .tuple #[.int .i64 0, .bool false], .nilIface, .tuple #[.int .i64 0, .bool false], .int .i64 0, .bool false, .bool false, undef], []⟩) (by kernel_rfl) ?_
  refine wpS_cond (t := false) (by kernel_rfl) ?_
  refine wpS_of_wp (wp_skip ?_)
  exact ⟨rfl, .returning, by rw [hz], .tuple #[], by kernel_rfl, rfl, rfl, rfl⟩
end Go.Proofs.YtfoeooddnmppnaaGreatDoor

/- Formulas of 1 Go functions of this seat (written by a program of the author's, vcgen.py), and that each is enough for the call. No condition. -/
set_option linter.unusedVariables false
namespace Go.Proofs.YtfoeooddnmppnaaGreatDoor
open Go Vc Go.Proofs
set_option maxRecDepth 100000
/-- zip.Read -/
def vc_zip_Read (x0 : ByteArray) (w : World) (R : Value → World → Prop) : Prop :=
  ∀ w1 : World,
  (w1 = World.alloc w (Obj.cells (Array.mk [Value.slice none 0 0]) 24) →
    ∀ w2 : World,
    (w2 = World.alloc w1 (Obj.cells (Array.mk [Value.int IntKind.i64 0]) 25) →
      (((decide ((↑(ByteArray.size x0) : Int) > 2097152) = true →
         (Wr w2 (Addr.mk (Array.size (World.heap w)) 0 none) ∧
          ∀ w3 : World,
          (w3 = World.setCell w2 (Addr.mk (Array.size (World.heap w)) 0 none) (Value.slice none 0 0) →
            (Wr w3 (Addr.mk (Array.size (World.heap w1)) 0 none) ∧
             ∀ w4 : World,
             (w4 = World.setCell w3 (Addr.mk (Array.size (World.heap w1)) 0 none) (Value.int IntKind.i64 2) →
               ∃ l5 : Sl, (Sem.run Tryz.prog (loadVar 24 (Addr.mk (Array.size (World.heap w)) 0 none)) w4 = Result.ok (Value.slice l5.1 l5.2 l5.3) w4 ∧
                ∃ n6 : Int, (Sem.run Tryz.prog (loadVar 25 (Addr.mk (Array.size (World.heap w1)) 0 none)) w4 = Result.ok (Value.int IntKind.i64 n6) w4 ∧
                 R (Value.tuple (Array.mk [Value.slice l5.1 l5.2 l5.3, Value.int IntKind.i64 n6])) w4)))))))) ∧
       (decide ((↑(ByteArray.size x0) : Int) > 2097152) = false →
         (((decide ((↑(ByteArray.size x0) : Int) < 22) = true →
            (Wr w2 (Addr.mk (Array.size (World.heap w)) 0 none) ∧
             ∀ w7 : World,
             (w7 = World.setCell w2 (Addr.mk (Array.size (World.heap w)) 0 none) (Value.slice none 0 0) →
               (Wr w7 (Addr.mk (Array.size (World.heap w1)) 0 none) ∧
                ∀ w8 : World,
                (w8 = World.setCell w7 (Addr.mk (Array.size (World.heap w1)) 0 none) (Value.int IntKind.i64 6) →
                  ∃ l9 : Sl, (Sem.run Tryz.prog (loadVar 24 (Addr.mk (Array.size (World.heap w)) 0 none)) w8 = Result.ok (Value.slice l9.1 l9.2 l9.3) w8 ∧
                   ∃ n10 : Int, (Sem.run Tryz.prog (loadVar 25 (Addr.mk (Array.size (World.heap w1)) 0 none)) w8 = Result.ok (Value.int IntKind.i64 n10) w8 ∧
                    R (Value.tuple (Array.mk [Value.slice l9.1 l9.2 l9.3, Value.int IntKind.i64 n10])) w8)))))))) ∧
          (decide ((↑(ByteArray.size x0) : Int) < 22) = false →
            ∀ w11 : World,
            (w11 = World.alloc w2 (Obj.cells (Array.mk [Value.string x0, Value.int IntKind.i64 (IntKind.wrap IntKind.i64 ((↑(ByteArray.size x0) : Int) - 22))]) 69) →
              Calls Tryz.prog (39 : Nat) (Array.mk [Value.int IntKind.i64 (0 : Int)]) (w11) (fun e12 w13 =>
                ∃ s14 : ByteArray, (e12 = Ending.returned (Value.string s14) ∧
                 (ByteArray.size (ByteArray.mk (Array.mk [80, 75, 5, 6])) + ByteArray.size s14 ≤ 9223372036854775807 ∧
                  Calls Tryz.prog (39 : Nat) (Array.mk [Value.int IntKind.i64 (0 : Int)]) (w13) (fun e15 w16 =>
                    ∃ s17 : ByteArray, (e15 = Ending.returned (Value.string s17) ∧
                     (ByteArray.size (ByteArray.mk (Array.mk [80, 75, 5, 6]) ++ s14) + ByteArray.size s17 ≤ 9223372036854775807 ∧
                      Calls Tryz.prog (38 : Nat) (Array.mk [Value.pointer (some (Addr.mk (Array.size (World.heap w2)) 0 none)), Value.string (ByteArray.mk (Array.mk [80, 75, 5, 6]) ++ s14 ++ s17)]) (w16) (fun e18 w19 =>
                        (e18 = Ending.returned (Value.tuple (Array.mk [])) ∧
                         Calls Tryz.prog (40 : Nat) (Array.mk [Value.pointer (some (Addr.mk (Array.size (World.heap w2)) 0 none)), Value.int IntKind.i64 2]) (w19) (fun e20 w21 =>
                           ∃ n22 : Int, (e20 = Ending.returned (Value.int IntKind.i64 n22) ∧
                            Calls Tryz.prog (40 : Nat) (Array.mk [Value.pointer (some (Addr.mk (Array.size (World.heap w2)) 0 none)), Value.int IntKind.i64 2]) (w21) (fun e23 w24 =>
                              ∃ n25 : Int, (e23 = Ending.returned (Value.int IntKind.i64 n25) ∧
                               Calls Tryz.prog (40 : Nat) (Array.mk [Value.pointer (some (Addr.mk (Array.size (World.heap w2)) 0 none)), Value.int IntKind.i64 4]) (w24) (fun e26 w27 =>
                                 ∃ n28 : Int, (e26 = Ending.returned (Value.int IntKind.i64 n28) ∧
                                  Calls Tryz.prog (40 : Nat) (Array.mk [Value.pointer (some (Addr.mk (Array.size (World.heap w2)) 0 none)), Value.int IntKind.i64 4]) (w27) (fun e29 w30 =>
                                    ∃ n31 : Int, (e29 = Ending.returned (Value.int IntKind.i64 n31) ∧
                                     Calls Tryz.prog (39 : Nat) (Array.mk [Value.int IntKind.i64 (0 : Int)]) (w30) (fun e32 w33 =>
                                       ∃ s34 : ByteArray, (e32 = Ending.returned (Value.string s34) ∧
                                        Calls Tryz.prog (38 : Nat) (Array.mk [Value.pointer (some (Addr.mk (Array.size (World.heap w2)) 0 none)), Value.string s34]) (w33) (fun e35 w36 =>
                                          (e35 = Ending.returned (Value.tuple (Array.mk [])) ∧
                                           ∃ I37 : World → Prop, (((((n22 == n25) = true →
                                               Calls Tryz.prog (41 : Nat) (Array.mk [Value.bool (IntKind.wrap IntKind.i64 (n31 + n28) == IntKind.wrap IntKind.i64 ((↑(ByteArray.size x0) : Int) - 22)), Value.int IntKind.i64 3]) (w36) (fun e38 w39 =>
                                                 (e38 = Ending.returned (Value.tuple (Array.mk [])) ∧
                                                  I37 w39)))) ∧
                                             ((n22 == n25) = false →
                                               Calls Tryz.prog (41 : Nat) (Array.mk [Value.bool false, Value.int IntKind.i64 (3 : Int)]) (w36) (fun e40 w41 =>
                                                 (e40 = Ending.returned (Value.tuple (Array.mk [])) ∧
                                                  I37 w41)))) ∧
                                            ∀ w42 : World,
                                            (I37 w42 →
                                              Calls Tryz.prog (41 : Nat) (Array.mk [Value.bool (decide (n22 ≤ 600)), Value.int IntKind.i64 2]) (w42) (fun e43 w44 =>
                                                (e43 = Ending.returned (Value.tuple (Array.mk [])) ∧
                                                 ((0 ≤ IntKind.wrap IntKind.i64 ((↑(ByteArray.size x0) : Int) - 22) ∧
                                                   IntKind.wrap IntKind.i64 ((↑(ByteArray.size x0) : Int) - 22) ≤ (↑(ByteArray.size x0) : Int)) ∧
                                                  (Wr w44 (Addr.mk (Array.size (World.heap w2)) 0 none) ∧
                                                   ∀ w45 : World,
                                                   (w45 = World.setCell w44 (Addr.mk (Array.size (World.heap w2)) 0 none) (Value.string (ByteArray.extract x0 0 (Int.toNat (IntKind.wrap IntKind.i64 ((↑(ByteArray.size x0) : Int) - 22))))) →
                                                     (Wr w45 (Addr.mk (Array.size (World.heap w2)) 1 none) ∧
                                                      ∀ w46 : World,
                                                      (w46 = World.setCell w45 (Addr.mk (Array.size (World.heap w2)) 1 none) (Value.int IntKind.i64 n31) →
                                                        ∃ I47 : Sl → Int → World → Prop, ∃ I48 : Sl → Int → World → Nat, (I47 (Sl.mk none 0 0) 0 w46 ∧
                                                         ∀ l49 : Sl,
                                                         ∀ n50 : Int,
                                                         ∀ w51 : World,
                                                         (I47 l49 n50 w51 →
                                                           (((decide (n50 < n22) = true →
                                                              Calls Tryz.prog (39 : Nat) (Array.mk [Value.int IntKind.i64 (20 : Int)]) (w51) (fun e52 w53 =>
                                                                ∃ s54 : ByteArray, (e52 = Ending.returned (Value.string s54) ∧
                                                                 (ByteArray.size (ByteArray.mk (Array.mk [80, 75, 1, 2])) + ByteArray.size s54 ≤ 9223372036854775807 ∧
                                                                  Calls Tryz.prog (38 : Nat) (Array.mk [Value.pointer (some (Addr.mk (Array.size (World.heap w2)) 0 none)), Value.string (ByteArray.mk (Array.mk [80, 75, 1, 2]) ++ s54)]) (w53) (fun e55 w56 =>
                                                                    (e55 = Ending.returned (Value.tuple (Array.mk [])) ∧
                                                                     Calls Tryz.prog (42 : Nat) (Array.mk [Value.pointer (some (Addr.mk (Array.size (World.heap w2)) 0 none))]) (w56) (fun e57 w58 =>
                                                                       ∃ n59 : Int, ∃ n60 : Int, ∃ n61 : Int, ∃ n62 : Int, ∃ n63 : Int, (e57 = Ending.returned (Value.agg (Array.mk [Value.int IntKind.i64 n59, Value.int IntKind.u32 n60, Value.int IntKind.i64 n61, Value.int IntKind.i64 n62, Value.int IntKind.i64 n63])) ∧
                                                                        ∀ w64 : World,
                                                                        (w64 = World.alloc w58 (Obj.cells (Array.mk [Value.int IntKind.i64 0, Value.int IntKind.u32 0, Value.int IntKind.i64 0, Value.int IntKind.i64 0, Value.int IntKind.i64 0, Value.string (ByteArray.mk (Array.mk [])), Value.int IntKind.i64 0]) 79) →
                                                                          ∃ w65 : World, (Sem.run Tryz.prog (storeVar 79 (Addr.mk (Array.size (World.heap w58)) 0 none) (Value.agg (Array.mk [Value.int IntKind.i64 n59, Value.int IntKind.u32 n60, Value.int IntKind.i64 n61, Value.int IntKind.i64 n62, Value.int IntKind.i64 n63, Value.string (ByteArray.mk (Array.mk [])), Value.int IntKind.i64 0]))) w64 = Result.ok PUnit.unit w65 ∧
                                                                           Calls Tryz.prog (39 : Nat) (Array.mk [Value.int IntKind.i64 (0 : Int)]) (w65) (fun e66 w67 =>
                                                                             ∃ s68 : ByteArray, (e66 = Ending.returned (Value.string s68) ∧
                                                                              Calls Tryz.prog (39 : Nat) (Array.mk [Value.int IntKind.i64 (0 : Int)]) (w67) (fun e69 w70 =>
                                                                                ∃ s71 : ByteArray, (e69 = Ending.returned (Value.string s71) ∧
                                                                                 (ByteArray.size s68 + ByteArray.size s71 ≤ 9223372036854775807 ∧
                                                                                  Calls Tryz.prog (39 : Nat) (Array.mk [Value.int IntKind.i64 (0 : Int)]) (w70) (fun e72 w73 =>
                                                                                    ∃ s74 : ByteArray, (e72 = Ending.returned (Value.string s74) ∧
                                                                                     (ByteArray.size (s68 ++ s71) + ByteArray.size s74 ≤ 9223372036854775807 ∧
                                                                                      Calls Tryz.prog (43 : Nat) (Array.mk [Value.int IntKind.i64 (0 : Int)]) (w73) (fun e75 w76 =>
                                                                                        ∃ s77 : ByteArray, (e75 = Ending.returned (Value.string s77) ∧
                                                                                         (ByteArray.size (s68 ++ s71 ++ s74) + ByteArray.size s77 ≤ 9223372036854775807 ∧
                                                                                          Calls Tryz.prog (38 : Nat) (Array.mk [Value.pointer (some (Addr.mk (Array.size (World.heap w2)) 0 none)), Value.string (s68 ++ s71 ++ s74 ++ s77)]) (w76) (fun e78 w79 =>
                                                                                            (e78 = Ending.returned (Value.tuple (Array.mk [])) ∧
                                                                                             Calls Tryz.prog (40 : Nat) (Array.mk [Value.pointer (some (Addr.mk (Array.size (World.heap w2)) 0 none)), Value.int IntKind.i64 4]) (w79) (fun e80 w81 =>
                                                                                               ∃ n82 : Int, (e80 = Ending.returned (Value.int IntKind.i64 n82) ∧
                                                                                                (Wr w81 (Addr.mk (Array.size (World.heap w58)) 6 none) ∧
                                                                                                 ∀ w83 : World,
                                                                                                 (w83 = World.setCell w81 (Addr.mk (Array.size (World.heap w58)) 6 none) (Value.int IntKind.i64 n82) →
                                                                                                   ∃ n84 : Int, (World.cell? w83 (Addr.mk (Array.size (World.heap w58)) 4 none) = some (Value.int IntKind.i64 n84) ∧
                                                                                                    Calls Tryz.prog (44 : Nat) (Array.mk [Value.pointer (some (Addr.mk (Array.size (World.heap w2)) 0 none)), Value.int IntKind.i64 n84]) (w83) (fun e85 w86 =>
                                                                                                      ∃ s87 : ByteArray, (e85 = Ending.returned (Value.string s87) ∧
                                                                                                       (Wr w86 (Addr.mk (Array.size (World.heap w58)) 5 none) ∧
                                                                                                        ∀ w88 : World,
                                                                                                        (w88 = World.setCell w86 (Addr.mk (Array.size (World.heap w58)) 5 none) (Value.string s87) →
                                                                                                          ∃ n89 : Int, ∃ n90 : Int, ∃ n91 : Int, ∃ n92 : Int, ∃ n93 : Int, ∃ s94 : ByteArray, ∃ n95 : Int, (Sem.run Tryz.prog (loadVar 79 (Addr.mk (Array.size (World.heap w58)) 0 none)) w88 = Result.ok (Value.agg (Array.mk [Value.int IntKind.i64 n89, Value.int IntKind.u32 n90, Value.int IntKind.i64 n91, Value.int IntKind.i64 n92, Value.int IntKind.i64 n93, Value.string s94, Value.int IntKind.i64 n95])) w88 ∧
                                                                                                           ∀ w96 : World,
                                                                                                           (w96 = World.alloc w88 (Obj.cells (Array.mk [Value.int IntKind.i64 n89, Value.int IntKind.u32 n90, Value.int IntKind.i64 n91, Value.int IntKind.i64 n92, Value.int IntKind.i64 n93, Value.string s94, Value.int IntKind.i64 n95]) 79) →
                                                                                                             ∃ w97 : World, ∃ l98 : Sl, (Sem.run Tryz.prog (Builtin.append_ (Array.mk [73, 73]) 73 (Array.mk [Value.slice l49.1 l49.2 l49.3, Value.slice (some (Addr.mk (Array.size (World.heap w88)) 0 none)) 1 1])) w96 = Result.ok (Value.slice l98.1 l98.2 l98.3) w97 ∧
                                                                                                              (I47 (Sl.mk l98.1 l98.2 l98.3) (IntKind.wrap IntKind.i64 (n50 + 1)) w97 ∧
                                                                                                               I48 (Sl.mk l98.1 l98.2 l98.3) (IntKind.wrap IntKind.i64 (n50 + 1)) w97 < I48 l49 n50 w51))))))))))))))))))))))))))))))))))))) ∧
                                                            (decide (n50 < n22) = false →
                                                              ∀ w99 : World,
                                                              (Drew w51 w99 →
                                                                ∃ I100 : World → Prop, (I100 w99 ∧
                                                                 ∃ n101 : Int, ((∀ w102 : World,
                                                                  (I100 w102 →
                                                                    World.cell? w102 (Addr.mk (Array.size (World.heap w2)) 1 none) = some (Value.int IntKind.i64 n101))) ∧
                                                                  ∃ s103 : ByteArray, ((∀ w104 : World,
                                                                   (I100 w104 →
                                                                     World.cell? w104 (Addr.mk (Array.size (World.heap w2)) 0 none) = some (Value.string s103))) ∧
                                                                   Calls Tryz.prog (41 : Nat) (Array.mk [Value.bool (n101 == (↑(ByteArray.size s103) : Int)), Value.int IntKind.i64 3]) (w99) (fun e105 w106 =>
                                                                     (e105 = Ending.returned (Value.tuple (Array.mk [])) ∧
                                                                      ((0 ≤ n31 ∧
                                                                        n31 ≤ (↑(ByteArray.size x0) : Int)) ∧
                                                                       (Wr w106 (Addr.mk (Array.size (World.heap w2)) 0 none) ∧
                                                                        ∀ w107 : World,
                                                                        (w107 = World.setCell w106 (Addr.mk (Array.size (World.heap w2)) 0 none) (Value.string (ByteArray.extract x0 0 (Int.toNat n31))) →
                                                                          (Wr w107 (Addr.mk (Array.size (World.heap w2)) 1 none) ∧
                                                                           ∀ w108 : World,
                                                                           (w108 = World.setCell w107 (Addr.mk (Array.size (World.heap w2)) 1 none) (Value.int IntKind.i64 0) →
                                                                             ∃ I109 : Int → Int → World → Prop, ∃ I110 : Int → Int → World → Nat, (I109 0 0 w108 ∧
                                                                              ∀ n111 : Int,
                                                                              ∀ n112 : Int,
                                                                              ∀ w113 : World,
                                                                              (I109 n111 n112 w113 →
                                                                                (((decide (n112 < (↑l49.2 : Int)) = true →
                                                                                   ((0 ≤ n112 ∧
                                                                                     n112 < (↑l49.2 : Int)) ∧
                                                                                    ∃ a114 : Addr, (l49.1 = some a114 ∧
                                                                                     ∃ n115 : Int, ∃ n116 : Int, ∃ n117 : Int, ∃ n118 : Int, ∃ n119 : Int, ∃ s120 : ByteArray, ∃ n121 : Int, (Sem.run Tryz.prog (loadVar 79 (Addr.add a114 (Int.toNat n112 * 7))) w113 = Result.ok (Value.agg (Array.mk [Value.int IntKind.i64 n115, Value.int IntKind.u32 n116, Value.int IntKind.i64 n117, Value.int IntKind.i64 n118, Value.int IntKind.i64 n119, Value.string s120, Value.int IntKind.i64 n121])) w113 ∧
                                                                                      ∀ w122 : World,
                                                                                      (w122 = World.alloc w113 (Obj.cells (Array.mk [Value.int IntKind.i64 0, Value.int IntKind.u32 0, Value.int IntKind.i64 0, Value.int IntKind.i64 0, Value.int IntKind.i64 0, Value.string (ByteArray.mk (Array.mk [])), Value.int IntKind.i64 0]) 79) →
                                                                                        ∃ w123 : World, (Sem.run Tryz.prog (storeVar 79 (Addr.mk (Array.size (World.heap w113)) 0 none) (Value.agg (Array.mk [Value.int IntKind.i64 n115, Value.int IntKind.u32 n116, Value.int IntKind.i64 n117, Value.int IntKind.i64 n118, Value.int IntKind.i64 n119, Value.string s120, Value.int IntKind.i64 n121]))) w122 = Result.ok PUnit.unit w123 ∧
                                                                                         ∀ w124 : World,
                                                                                         (Drew w123 w124 →
                                                                                           ∃ I125 : World → Prop, (I125 w124 ∧
                                                                                            ∃ n126 : Int, ((∀ w127 : World,
                                                                                             (I125 w127 →
                                                                                               World.cell? w127 (Addr.mk (Array.size (World.heap w113)) 6 none) = some (Value.int IntKind.i64 n126))) ∧
                                                                                             ∃ n128 : Int, ((∀ w129 : World,
                                                                                              (I125 w129 →
                                                                                                World.cell? w129 (Addr.mk (Array.size (World.heap w2)) 1 none) = some (Value.int IntKind.i64 n128))) ∧
                                                                                              Calls Tryz.prog (41 : Nat) (Array.mk [Value.bool (n126 == n128), Value.int IntKind.i64 3]) (w124) (fun e130 w131 =>
                                                                                                (e130 = Ending.returned (Value.tuple (Array.mk [])) ∧
                                                                                                 Calls Tryz.prog (38 : Nat) (Array.mk [Value.pointer (some (Addr.mk (Array.size (World.heap w2)) 0 none)), Value.string (ByteArray.mk (Array.mk [80, 75, 3, 4]))]) (w131) (fun e132 w133 =>
                                                                                                   (e132 = Ending.returned (Value.tuple (Array.mk [])) ∧
                                                                                                    ∀ w134 : World,
                                                                                                    (Drew w133 w134 →
                                                                                                      ∃ I135 : World → Prop, (I135 w134 ∧
                                                                                                       ∃ n136 : Int, ∃ n137 : Int, ∃ n138 : Int, ∃ n139 : Int, ∃ n140 : Int, ((∀ w141 : World,
                                                                                                        (I135 w141 →
                                                                                                          Sem.run Tryz.prog (loadVar 76 (Addr.mk (Array.size (World.heap w113)) 0 none)) w141 = Result.ok (Value.agg (Array.mk [Value.int IntKind.i64 n136, Value.int IntKind.u32 n137, Value.int IntKind.i64 n138, Value.int IntKind.i64 n139, Value.int IntKind.i64 n140])) w141)) ∧
                                                                                                        Calls Tryz.prog (42 : Nat) (Array.mk [Value.pointer (some (Addr.mk (Array.size (World.heap w2)) 0 none))]) (w134) (fun e142 w143 =>
                                                                                                          ∃ n144 : Int, ∃ n145 : Int, ∃ n146 : Int, ∃ n147 : Int, ∃ n148 : Int, (e142 = Ending.returned (Value.agg (Array.mk [Value.int IntKind.i64 n144, Value.int IntKind.u32 n145, Value.int IntKind.i64 n146, Value.int IntKind.i64 n147, Value.int IntKind.i64 n148])) ∧
                                                                                                           (I135 w143 ∧
                                                                                                            Calls Tryz.prog (41 : Nat) (Array.mk [Value.bool (n144 == n136 && (n145 == n137 && (n146 == n138 && (n147 == n139 && n148 == n140)))), Value.int IntKind.i64 3]) (w143) (fun e149 w150 =>
                                                                                                              (e149 = Ending.returned (Value.tuple (Array.mk [])) ∧
                                                                                                               ∃ s151 : ByteArray, (World.cell? w150 (Addr.mk (Array.size (World.heap w113)) 5 none) = some (Value.string s151) ∧
                                                                                                                Calls Tryz.prog (38 : Nat) (Array.mk [Value.pointer (some (Addr.mk (Array.size (World.heap w2)) 0 none)), Value.string s151]) (w150) (fun e152 w153 =>
                                                                                                                  (e152 = Ending.returned (Value.tuple (Array.mk [])) ∧
                                                                                                                   ∃ n154 : Int, (World.cell? w153 (Addr.mk (Array.size (World.heap w113)) 2 none) = some (Value.int IntKind.i64 n154) ∧
                                                                                                                    Calls Tryz.prog (44 : Nat) (Array.mk [Value.pointer (some (Addr.mk (Array.size (World.heap w2)) 0 none)), Value.int IntKind.i64 n154]) (w153) (fun e155 w156 =>
                                                                                                                      ∃ s157 : ByteArray, (e155 = Ending.returned (Value.string s157) ∧
                                                                                                                       ∃ n158 : Int, (World.cell? w156 (Addr.mk (Array.size (World.heap w113)) 3 none) = some (Value.int IntKind.i64 n158) ∧
                                                                                                                        Calls Tryz.prog (41 : Nat) (Array.mk [Value.bool (decide (IntKind.wrap IntKind.i64 (n111 + n158) ≤ 1048576)), Value.int IntKind.i64 2]) (w156) (fun e159 w160 =>
                                                                                                                          (e159 = Ending.returned (Value.tuple (Array.mk [])) ∧
                                                                                                                           ∀ w161 : World,
                                                                                                                           (Drew w160 w161 →
                                                                                                                             ∃ I162 : World → Prop, (I162 w161 ∧
                                                                                                                              ∃ l163 : Sl, ((∀ w164 : World,
                                                                                                                               (I162 w164 →
                                                                                                                                 World.cell? w164 (Addr.mk (Array.size (World.heap w)) 0 none) = some (Value.slice l163.1 l163.2 l163.3))) ∧
                                                                                                                               ∃ s165 : ByteArray, ((∀ w166 : World,
                                                                                                                                (I162 w166 →
                                                                                                                                  World.cell? w166 (Addr.mk (Array.size (World.heap w113)) 5 none) = some (Value.string s165))) ∧
                                                                                                                                ∃ n167 : Int, ∃ n168 : Int, ∃ n169 : Int, ∃ n170 : Int, ∃ n171 : Int, ∃ s172 : ByteArray, ∃ n173 : Int, ((∀ w174 : World,
                                                                                                                                 (I162 w174 →
                                                                                                                                   Sem.run Tryz.prog (loadVar 79 (Addr.mk (Array.size (World.heap w113)) 0 none)) w174 = Result.ok (Value.agg (Array.mk [Value.int IntKind.i64 n167, Value.int IntKind.u32 n168, Value.int IntKind.i64 n169, Value.int IntKind.i64 n170, Value.int IntKind.i64 n171, Value.string s172, Value.int IntKind.i64 n173])) w174)) ∧
                                                                                                                                 Calls Tryz.prog (45 : Nat) (Array.mk [Value.agg (Array.mk [Value.int IntKind.i64 n167, Value.int IntKind.u32 n168, Value.int IntKind.i64 n169, Value.int IntKind.i64 n170, Value.int IntKind.i64 n171, Value.string s172, Value.int IntKind.i64 n173]), Value.string s157]) (w161) (fun e175 w176 =>
                                                                                                                                   ∃ s177 : ByteArray, (e175 = Ending.returned (Value.string s177) ∧
                                                                                                                                    (I162 w176 ∧
                                                                                                                                     ∀ w178 : World,
                                                                                                                                     (w178 = World.alloc w176 (Obj.cells (Array.mk [Value.string s165, Value.string s177]) 35) →
                                                                                                                                       (I162 w178 ∧
                                                                                                                                        ∃ w179 : World, ∃ l180 : Sl, (Sem.run Tryz.prog (Builtin.append_ (Array.mk [24, 24]) 24 (Array.mk [Value.slice l163.1 l163.2 l163.3, Value.slice (some (Addr.mk (Array.size (World.heap w176)) 0 none)) 1 1])) w178 = Result.ok (Value.slice l180.1 l180.2 l180.3) w179 ∧
                                                                                                                                         (I162 w179 ∧
                                                                                                                                          (Wr w179 (Addr.mk (Array.size (World.heap w)) 0 none) ∧
                                                                                                                                           ∀ w181 : World,
                                                                                                                                           (w181 = World.setCell w179 (Addr.mk (Array.size (World.heap w)) 0 none) (Value.slice l180.1 l180.2 l180.3) →
                                                                                                                                             (I109 (IntKind.wrap IntKind.i64 (n111 + n158)) (IntKind.wrap IntKind.i64 (n112 + 1)) w181 ∧
                                                                                                                                              I110 (IntKind.wrap IntKind.i64 (n111 + n158)) (IntKind.wrap IntKind.i64 (n112 + 1)) w181 < I110 n111 n112 w113))))))))))))))))))))))))))))))))))))))))))))))) ∧
                                                                                 (decide (n112 < (↑l49.2 : Int)) = false →
                                                                                   ∃ n182 : Int, (World.cell? w113 (Addr.mk (Array.size (World.heap w2)) 1 none) = some (Value.int IntKind.i64 n182) ∧
                                                                                    Calls Tryz.prog (41 : Nat) (Array.mk [Value.bool (n182 == n31), Value.int IntKind.i64 3]) (w113) (fun e183 w184 =>
                                                                                      (e183 = Ending.returned (Value.tuple (Array.mk [])) ∧
                                                                                       ∃ l185 : Sl, (World.cell? w184 (Addr.mk (Array.size (World.heap w)) 0 none) = some (Value.slice l185.1 l185.2 l185.3) ∧
                                                                                        Calls Tryz.prog (46 : Nat) (Array.mk [Value.slice l185.1 l185.2 l185.3]) (w184) (fun e186 w187 =>
                                                                                          ∃ n188 : Int, (e186 = Ending.returned (Value.int IntKind.i64 n188) ∧
                                                                                           ((((n188 != 0) = true →
                                                                                              (Wr w187 (Addr.mk (Array.size (World.heap w)) 0 none) ∧
                                                                                               ∀ w189 : World,
                                                                                               (w189 = World.setCell w187 (Addr.mk (Array.size (World.heap w)) 0 none) (Value.slice none 0 0) →
                                                                                                 (Wr w189 (Addr.mk (Array.size (World.heap w1)) 0 none) ∧
                                                                                                  ∀ w190 : World,
                                                                                                  (w190 = World.setCell w189 (Addr.mk (Array.size (World.heap w1)) 0 none) (Value.int IntKind.i64 n188) →
                                                                                                    CallsD Tryz.prog (37 : Nat) (Array.mk [Value.pointer (some (Addr.mk (Array.size (World.heap w)) 0 none)), Value.pointer (some (Addr.mk (Array.size (World.heap w1)) 0 none))]) (FrameMode.returning) (w190) (fun e191 z192 w193 =>
                                                                                                      ((∃ v194 : Value, e191 = Ending.returned v194) ∧
                                                                                                       (z192 = FrameMode.returning ∧
                                                                                                        ∃ l195 : Sl, (Sem.run Tryz.prog (loadVar 24 (Addr.mk (Array.size (World.heap w)) 0 none)) w193 = Result.ok (Value.slice l195.1 l195.2 l195.3) w193 ∧
                                                                                                         ∃ n196 : Int, (Sem.run Tryz.prog (loadVar 25 (Addr.mk (Array.size (World.heap w1)) 0 none)) w193 = Result.ok (Value.int IntKind.i64 n196) w193 ∧
                                                                                                          R (Value.tuple (Array.mk [Value.slice l195.1 l195.2 l195.3, Value.int IntKind.i64 n196])) w193))))))))))) ∧
                                                                                            ((n188 != 0) = false →
                                                                                              ∃ l197 : Sl, (World.cell? w187 (Addr.mk (Array.size (World.heap w)) 0 none) = some (Value.slice l197.1 l197.2 l197.3) ∧
                                                                                               (Wr w187 (Addr.mk (Array.size (World.heap w)) 0 none) ∧
                                                                                                ∀ w198 : World,
                                                                                                (w198 = World.setCell w187 (Addr.mk (Array.size (World.heap w)) 0 none) (Value.slice l197.1 l197.2 l197.3) →
                                                                                                  (Wr w198 (Addr.mk (Array.size (World.heap w1)) 0 none) ∧
                                                                                                   ∀ w199 : World,
                                                                                                   (w199 = World.setCell w198 (Addr.mk (Array.size (World.heap w1)) 0 none) (Value.int IntKind.i64 0) →
                                                                                                     CallsD Tryz.prog (37 : Nat) (Array.mk [Value.pointer (some (Addr.mk (Array.size (World.heap w)) 0 none)), Value.pointer (some (Addr.mk (Array.size (World.heap w1)) 0 none))]) (FrameMode.returning) (w199) (fun e200 z201 w202 =>
                                                                                                       ((∃ v203 : Value, e200 = Ending.returned v203) ∧
                                                                                                        (z201 = FrameMode.returning ∧
                                                                                                         ∃ l204 : Sl, (Sem.run Tryz.prog (loadVar 24 (Addr.mk (Array.size (World.heap w)) 0 none)) w202 = Result.ok (Value.slice l204.1 l204.2 l204.3) w202 ∧
                                                                                                          ∃ n205 : Int, (Sem.run Tryz.prog (loadVar 25 (Addr.mk (Array.size (World.heap w1)) 0 none)) w202 = Result.ok (Value.int IntKind.i64 n205) w202 ∧
                                                                                                           R (Value.tuple (Array.mk [Value.slice l204.1 l204.2 l204.3, Value.int IntKind.i64 n205])) w202)))))))))))))))))))))))))))))))))))))))))))))))))))))))))))))))))))))))))
theorem vc_zip_Read_ok {x0 : ByteArray} {w : World} {R : Value → World → Prop} {R' : Ending → World → Prop} (h : vc_zip_Read x0 w R) (hR : ∀ v w', R v w' → R' (.returned v) w') :
    Calls Tryz.prog 9 #[.string x0] w R' :=
  calls_of_bodyD (vs := [(.string x0, false)]) (ty := ty) (ann := ⟨[(12, [])], [(16, [(9, .slice), (75, .int .i64)]), (28, [(11, .int .i64), (129, .int .i64)])], [(24, .held [(0, true), (1, true), (2, true), (3, true), (4, true), (5, true), (6, true), (7, true), (8, true), (9, true), (10, false)]), (30, .held [(0, true), (1, true), (2, true), (3, true), (4, true), (5, true), (6, true), (7, false)]), (32, .held [(0, true), (2, true), (3, true), (1, false), (4, true), (5, false)]), (37, .held [(0, true), (1, true), (2, true), (4, true), (3, true), (5, false), (6, true), (7, false), (8, false), (9, false)])], []⟩) (c := Tryz.f9.body.getD .skip) (by kernel_rfl) Tryz.func9 (by kernel_rfl) (by kernel_rfl) (Eq.mp (by kernel_rfl) h) hR
end Go.Proofs.YtfoeooddnmppnaaGreatDoor

/- zip.Read of an archive that is right. Conditions: texts no longer than memory; what is inflated is told by the caller. -/
set_option linter.unusedVariables false
namespace Go.Proofs.YtfoeooddnmppnaaGreatDoor
open Go Vc SumM Go.Proofs

theorem load_one {w : World} {a : Addr} {T : TypeId} {v : Value} (hu : pureRun Tryz.prog (isAgg T) = some false) (hc : w.cell? a = some v) : (loadVar T a).run Tryz.prog w = .ok v w := by
  unfold loadVar
  rw [Sem.run_bind, pureRun_spec hu w]
  simp [Result.andThen, hc]
/-- What Read keeps in memory: its results' variables; nothing of the elder heap is turned. -/
structure ZSt (w : World) (lf : Sl) (w' : World) : Prop where
  fr : Fr (fun q => w.heap.size ≤ q) w w'
  A : w'.heap[w.heap.size]? = some (.cells #[.slice lf.a lf.len lf.cap] T_S_api_File (0, 0))
  E : w'.heap[w.heap.size + 1]? = some (.cells #[.int .i64 0] T_api_Errno (0, 0))
theorem ZSt.step {w w' w'' : World} {lf : Sl} (h : ZSt w lf w') {X : Nat → Prop} (hf : Fr X w' w'') (hx : ∀ q, q < w'.heap.size → X q → w.heap.size + 2 ≤ q) : ZSt w lf w'' := by
  have hA := lt_blk h.A
  have hE := lt_blk h.E
  refine ⟨h.fr.trans hf fun q hq hX => ?_, hf.keep h.A fun hX => ?_, hf.keep h.E fun hX => ?_⟩
  · have := hx q (by have := h.fr.size; omega) hX; omega
  · have := hx _ hA hX; omega
  · have := hx _ hE hX; omega
theorem ZSt.step0 {w w' w'' : World} {lf : Sl} (h : ZSt w lf w') (hf : Fr (fun _ => False) w' w'') : ZSt w lf w'' := h.step hf fun _ _ h => h.elim
theorem ZSt.stepB {w w' w'' : World} {lf : Sl} (h : ZSt w lf w') {B : Nat} (hf : Fr (· = B) w' w'') (hB : w.heap.size + 2 ≤ B) : ZSt w lf w'' := h.step hf fun q _ e => by omega
/-- An archive that is right. -/
structure GoodZ (es : List EntZ) (s : ByteArray) : Prop where
  text : s.data.toList = arcZ es
  size : s.size ≤ 2097152
  chk : zchk (es.map filZ) = 0
  unp : ∀ x ∈ es, UnpZ x
theorem GoodZ.bounds {es : List EntZ} {s : ByteArray} (h : GoodZ es s) : es.length ≤ 600 ∧ totalF (es.map filZ) ≤ 1048576 ∧ (outZ es).length + (idxZ 0 es).length + 22 = s.size ∧ ∀ x ∈ es, x.path.size ≤ 200 ∧ x.method < 65536 ∧ x.packed.size ≤ 2097152 ∧ x.data.size ≤ 1048576 := by
  obtain ⟨h1, h2, h3⟩ := zchk_ok h.chk
  rw [List.length_map] at h1
  refine ⟨h1, h2, ?_, fun x hx => ?_⟩
  · rw [← bs_len, h.text]
    unfold arcZ
    rw [List.length_append, List.length_append, endL_len]; omega
  · have hc := h3 (filZ x) (List.mem_map_of_mem hx)
    obtain ⟨u1, u2, u3⟩ := h.unp x hx
    unfold cleanB at hc
    simp only [Bool.and_eq_true, decide_eq_true_eq] at hc
    refine ⟨by have : (filZ x).path = x.path := rfl; rw [this] at hc; omega, ?_, u2, u1⟩
    rcases u3 with ⟨hm, _⟩ | ⟨hm, _⟩ <;> omega
set_option maxHeartbeats 1600000 in
theorem zread_spec {es : List EntZ} {s : ByteArray} (hg : GoodZ es s) (w : World) :
    Calls Tryz.prog F_zip_Read #[.string s] w fun e w' => ∃ l : Sl, e = .returned (.tuple #[.slice l.a l.len l.cap, .int .i64 0]) ∧ OwnK encF 2 w' w.heap.size T_api_File l (es.map filZ) ∧ Fr (fun _ => False) w w' := by
  refine vc_zip_Read_ok (R := fun v w' => ∃ l : Sl, v = .tuple #[.slice l.a l.len l.cap, .int .i64 0] ∧ OwnK encF 2 w' w.heap.size T_api_File l (es.map filZ) ∧ Fr (fun _ => False) w w') ?_ (fun v w' ⟨l, h⟩ => ⟨l, by rw [h.1], h.2⟩)
  obtain ⟨hn600, htot, hsz, hx⟩ := hg.bounds
  have hss := hg.size
  have hsb : s.size ≤ 4611686018427387904 := by omega
  intro w1 h1 w2 h2
  have s1 : w1.heap.size = w.heap.size + 1 := by rw [h1]; simp
  have s2 : w2.heap.size = w.heap.size + 2 := by rw [h2]; simp [s1]
  have z2 : ZSt w ⟨none, 0, 0⟩ w2 := by
    refine ⟨((by rw [h1]; exact .alloc _ _ _ : Fr (fun q => w.heap.size ≤ q) w w1)).trans' (by rw [h2]; exact .alloc _ _ _), ?_, ?_⟩
    · rw [h2]; exact (Fr.alloc (fun _ => False) w1 _).keep (by rw [h1]; exact alloc_new w _) (by simp)
    · rw [h2, ← s1]; exact alloc_new w1 _
  refine ⟨fun h => absurd (of_decide_eq_true h) (by omega), fun _ => ⟨fun h => absurd (of_decide_eq_true h) (by omega), fun _ w11 h11 => ?_⟩⟩
  have e22 : IntKind.i64.wrap ((s.size : Int) - 22) = ((s.size - 22 : Nat) : Int) := by rw [wrap_i64 (by omega) (by omega)]; omega
  rw [e22] at h11
  rw [s2, s1]
  have z11 : ZSt w ⟨none, 0, 0⟩ w11 := z2.step0 (by rw [h11]; exact .alloc _ _ _)
  have r11 : RdR w11 (w.heap.size + 2) s (endL es.length (idxZ 0 es).length (outZ es).length) (s.size - 22) := by
    refine ⟨by rw [h11, ← s2]; exact alloc_new w2 _, ?_, by omega⟩
    rw [hg.text]
    unfold arcZ
    rw [← List.append_assoc, List.drop_append, List.drop_of_length_le (by rw [List.length_append]; omega), List.nil_append, List.length_append, show s.size - 22 - ((outZ es).length + (idxZ 0 es).length) = 0 by omega, List.drop_zero]
  clear h1 h2 h11 z2
  have hB2 : w.heap.size + 2 ≤ w.heap.size + 2 := Nat.le_refl _
  have c4 : ∀ u v p q : UInt8, (ByteArray.mk #[u, v, p, q]).size = 4 := fun _ _ _ _ => rfl
  have hE : endL es.length (idxZ 0 es).length (outZ es).length = ([80, 75, 5, 6] ++ littleB 2 0 ++ littleB 2 0) ++ (littleB 2 es.length ++ (littleB 2 es.length ++ (littleB 4 (idxZ 0 es).length ++ (littleB 4 (outZ es).length ++ (littleB 2 0 ++ []))))) := by
    unfold endL; simp only [List.append_assoc, List.append_nil]
  rw [hE] at r11
  refine (two_spec 0 (by decide) w11).mono ?_
  rintro e w13 ⟨rfl, f13⟩
  refine ⟨_, rfl, by simp only [le_size, c4]; omega, (two_spec 0 (by decide) w13).mono ?_⟩
  rintro e w16 ⟨rfl, f16⟩
  refine ⟨_, rfl, by simp only [ByteArray.size_append, le_size, c4]; omega, (wantL_spec (r11.keep (f13.trans' f16) (by simp)) (by simp only [bs_app]) hsb).mono ?_⟩
  rintro e w19 ⟨rfl, r19, f19⟩
  refine ⟨rfl, (number_spec r19 (by decide) (by omega) hsb).mono ?_⟩
  rintro e w21 ⟨rfl, r21, f21⟩
  refine ⟨_, rfl, (number_spec r21 (by decide) (by omega) hsb).mono ?_⟩
  rintro e w24 ⟨rfl, r24, f24⟩
  refine ⟨_, rfl, (number_spec r24 (by decide) (by omega) hsb).mono ?_⟩
  rintro e w27 ⟨rfl, r27, f27⟩
  refine ⟨_, rfl, (number_spec r27 (by decide) (by omega) hsb).mono ?_⟩
  rintro e w30 ⟨rfl, r30, f30⟩
  refine ⟨_, rfl, (two_spec 0 (by decide) w30).mono ?_⟩
  rintro e w33 ⟨rfl, f33⟩
  refine ⟨_, rfl, (wantL_spec (r30.keep f33 (by simp)) (by simp only) hsb).mono ?_⟩
  rintro e w36 ⟨rfl, r36, f36⟩
  have z36 : ZSt w ⟨none, 0, 0⟩ w36 := ((((((((z11.step0 (f13.trans' f16)).stepB f19 hB2).stepB f21 hB2).stepB f24 hB2).stepB f27 hB2).stepB f30 hB2).step0 f33)).stepB f36 hB2
  have b36 := r36.1
  clear r11 r19 r21 r24 r27 r30 r36 f13 f16 f19 f21 f24 f27 f30 f33 f36 z11
  obtain ⟨v36, hv36⟩ : ∃ v : Array Value, w36.heap[w.heap.size + 2]? = some (.cells v T_zip_reader (0, 0)) ∧ v.size = 2 := ⟨_, b36, rfl⟩
  clear b36
  obtain ⟨hv36, hvs⟩ := hv36
  have ef : IntKind.i64.wrap (((outZ es).length : Int) + ((idxZ 0 es).length : Int)) = ((s.size - 22 : Nat) : Int) := by rw [wrap_i64 (by omega) (by omega)]; omega
  refine ⟨rfl, fun w' => w' = w36, ⟨fun _ => (must_spec (by rw [ef, e22]; simp) 3 w36).mono ?_, fun h => by simp at h⟩, ?_⟩
  · rintro e w39 ⟨rfl, rfl⟩; exact ⟨rfl, rfl⟩
  rintro w42 rfl
  refine (must_spec (decide_eq_true (by omega)) 2 w42).mono ?_
  rintro e w44 ⟨rfl, rfl⟩
  rw [e22, Int.toNat_natCast]
  refine ⟨rfl, ⟨by omega, by omega⟩, wr_blk hv36 (by omega), fun w45 h45 => ?_⟩
  obtain ⟨s1', hs1'⟩ : ∃ x : ByteArray, s.extract 0 (s.size - 22) = x := ⟨_, rfl⟩
  rw [hs1'] at h45
  have hb45 : w45.heap[w.heap.size + 2]? = some (.cells (v36.setIfInBounds 0 (.string s1')) T_zip_reader (0, 0)) := by rw [h45, set_blk hv36]
  have hs1l : s1'.data.toList = outZ es ++ idxZ 0 es := by
    rw [← hs1', bs_head, hg.text]
    unfold arcZ
    rw [← List.append_assoc, List.take_append_of_le_length (by rw [List.length_append]; omega), List.take_of_length_le (by rw [List.length_append]; omega)]
  have hs1s : s1'.size = s.size - 22 := by rw [← bs_len, hs1l, List.length_append]; omega
  refine ⟨wr_blk hb45 (by simp [hvs]), fun w46 h46 => ?_⟩
  have hb46 : w46.heap[w.heap.size + 2]? = some (.cells #[.string s1', .int .i64 ((outZ es).length : Int)] T_zip_reader (0, 0)) := by
    rw [h46, set_blk hb45]
    congr 2
    refine Array.ext' ?_
    obtain ⟨a0, a1, ha⟩ : ∃ a0 a1, v36.toList = [a0, a1] := by
      obtain ⟨l⟩ := v36
      match l, hvs with
      | [a0, a1], _ => exact ⟨a0, a1, rfl⟩
    rw [Array.toList_setIfInBounds, Array.toList_setIfInBounds, ha]; rfl
  have f45 : Fr (· = w.heap.size + 2) w44 w45 := by rw [h45]; exact Fr.set (· = w.heap.size + 2) w44 (a := ⟨w.heap.size + 2, 0, none⟩) _ rfl
  have f46 : Fr (· = w.heap.size + 2) w45 w46 := by rw [h46]; exact Fr.set (· = w.heap.size + 2) w45 (a := ⟨w.heap.size + 2, 1, none⟩) _ rfl
  have z46 : ZSt w ⟨none, 0, 0⟩ w46 := (z36.stepB f45 hB2).stepB f46 hB2
  have r46 : RdR w46 (w.heap.size + 2) s1' (idxZ 0 es) (outZ es).length := ⟨hb46, by rw [hs1l]; exact List.drop_left, by omega⟩
  clear hb45 hb46 h45 h46 hv36 z36 f45 f46
  generalize hBB : w.heap.size + 2 = B at *
  have hel : ∀ k, ((entsZ 0 es).take k).length ≤ 600 := fun k => by rw [List.length_take, entsZ_length]; omega
  refine ⟨fun l i w' => ∃ k kk : Nat, i = k ∧ k ≤ es.length ∧ ZSt w ⟨none, 0, 0⟩ w' ∧ RdR w' B s1' (idxZ (outZ (es.take k)).length (es.drop k)) kk ∧ OwnK encT 7 w' (B + 1) T_zip_entry l ((entsZ 0 es).take k), fun l i _ => es.length - i.toNat,
    ⟨0, (outZ es).length, rfl, Nat.zero_le _, z46, r46, by rw [List.take_zero]; exact OwnK.nil _ _ _⟩, ?_⟩
  clear z46 r46
  rintro l i w51 ⟨k, kk, rfl, hk, z51, r51, o51⟩
  refine ⟨fun hlt => ?_, fun hge => ?_⟩
  · have hlt := of_decide_eq_true hlt
    have hkl : k < es.length := by omega
    have hxk : es[k]? = some es[k] := List.getElem?_eq_getElem hkl
    generalize es[k] = x at hxk
    obtain ⟨hx1, hx2, hx3, hx4⟩ := hx x (List.mem_of_getElem? hxk)
    have hcr := (crcW x.data.data.toList).isLt
    have hok : (outZ (es.take k)).length ≤ 2097152 := by
      have := congrArg List.length (outZ_drop es k)
      rw [List.length_append] at this
      omega
    rw [idxZ_drop hxk] at r51
    generalize hrest : idxZ (outZ (es.take (k + 1))).length (es.drop (k + 1)) = rest at r51
    have hcen : cenZ x (outZ (es.take k)).length ++ rest = ([80, 75, 1, 2] ++ littleB 2 20) ++ (factZ x ++ ((littleB 2 0 ++ littleB 2 0 ++ littleB 2 0 ++ littleB 4 0) ++ (littleB 4 (outZ (es.take k)).length ++ (x.path.data.toList ++ rest)))) := by
      unfold cenZ; simp only [List.append_assoc]
    rw [hcen] at r51
    refine (two_spec 20 (by decide) w51).mono ?_
    rintro e w53 ⟨rfl, f53⟩
    refine ⟨_, rfl, by simp only [le_size, c4]; omega, (wantL_spec (r51.keep f53 (by simp)) (by simp only [bs_app]) (by omega)).mono ?_⟩
    rintro e w56 ⟨rfl, r56, f56⟩
    refine ⟨rfl, (head_spec r56 hx2 hcr (by omega) (by omega) (by omega) (by omega)).mono ?_⟩
    rintro e w58 ⟨rfl, r58, f58⟩
    refine ⟨_, _, _, _, _, rfl, fun w64 h64 => ?_⟩
    have hCB := lt_blk r58.1
    have f64 : Fr (fun _ => False) w58 w64 := by rw [h64]; exact .alloc _ _ _
    have hC64 : w64.heap[w58.heap.size]? = some (.cells #[.int .i64 0, .int .u32 0, .int .i64 0, .int .i64 0, .int .i64 0, .string ⟨#[]⟩, .int .i64 0] T_zip_entry (0, 0)) := by rw [h64]; exact alloc_new _ _
    have s51 := ((f53.mono (Y := (· = B)) fun _ _ h => h.elim).trans' (f56.trans' f58)).size
    have z58 := (((z51.step0 f53).stepB f56 (by omega)).stepB f58 (by omega))
    have o58 := ((o51.keep f53 (by simp)).keep f56 fun q hq e => by have := (o51.blk hq).1; omega).keep f58 fun q hq e => by have := (o51.blk hq).1; omega
    have ho58 : ∀ q, l.a = some q → q.block < w51.heap.size := fun q hq => (o51.blk hq).2
    clear h64
    obtain ⟨w65, hrun65, hC65, f65⟩ := box_store (headZ x ++ [.string ⟨#[]⟩, .int .i64 0]) hC64 (by kernel_rfl) rfl (fun v hv => by
      rcases List.mem_append.1 hv with h | h
      · exact headV_one _ _ _ _ _ v h
      · simp only [List.mem_cons, List.mem_nil_iff, or_false] at h
        rcases h with rfl | rfl <;> rfl)
    generalize w58.heap.size = C at *
    refine ⟨w65, hrun65, (two_spec 0 (by decide) w65).mono ?_⟩
    have r65 := (r58.keep f64 (by simp)).keep f65 (by omega)
    have z65 := (z58.step0 f64).stepB f65 (by omega)
    have o65 := (o58.keep f64 (by simp)).keep f65 fun q hq e => by have := ho58 q hq; omega
    rintro e w67 ⟨rfl, f67⟩
    refine ⟨_, rfl, (two_spec 0 (by decide) w67).mono ?_⟩
    rintro e w70 ⟨rfl, f70⟩
    refine ⟨_, rfl, by simp only [le_size]; omega, (two_spec 0 (by decide) w70).mono ?_⟩
    rintro e w73 ⟨rfl, f73⟩
    refine ⟨_, rfl, by simp only [ByteArray.size_append, le_size]; omega, (four_spec 0 (by decide) w73).mono ?_⟩
    rintro e w76 ⟨rfl, f76⟩
    have f65_76 := ((f67.trans' f70).trans' f73).trans' f76
    refine ⟨_, rfl, by simp only [ByteArray.size_append, le_size]; omega, (wantL_spec (r65.keep f65_76 (by simp)) (by simp only [bs_app]) (by omega)).mono ?_⟩
    rintro e w79 ⟨rfl, r79, f79⟩
    refine ⟨rfl, (number_spec r79 (by decide) (by omega) (by omega)).mono ?_⟩
    rintro e w81 ⟨rfl, r81, f81⟩
    have f76_81 := f79.trans' f81
    have hC81 := f76_81.keep (f65_76.keep hC65 (by simp)) (by omega)
    have z81 := (z65.step0 f65_76).stepB f76_81 (by omega)
    have o81 := (o65.keep f65_76 (by simp)).keep f76_81 fun q hq e => by have := (o51.blk hq).1; omega
    refine ⟨_, rfl, wr_blk hC81 (Nat.lt_of_lt_of_eq (by decide : 6 < 7) rfl), fun w83 h83 => ?_⟩
    have hC83 : w83.heap[C]? = some (.cells (headZ x ++ [Value.string ⟨#[]⟩, Value.int .i64 ((outZ (es.take k)).length : Int)]).toArray T_zip_entry (0, 0)) := by rw [h83, set_blk hC81]; rfl
    have f83 : Fr (· = C) w81 w83 := by rw [h83]; exact Fr.set (· = C) w81 (a := ⟨C, 6, none⟩) _ rfl
    refine ⟨x.path.size, by rw [cell_blk hC83]; rfl, (take_spec (r81.keep f83 (by omega)) (bs_len x.path) (by omega)).mono ?_⟩
    rintro e w86 ⟨rfl, r86, f86⟩
    have hC86 := f86.keep hC83 (by omega)
    refine ⟨_, rfl, wr_blk hC86 (Nat.lt_of_lt_of_eq (by decide : 5 < 7) rfl), fun w88 h88 => ?_⟩
    have hC88 : w88.heap[C]? = some (.cells (encT (x, (outZ (es.take k)).length)).toArray T_zip_entry (0, 0)) := by rw [h88, set_blk hC86, bs_self]; rfl
    have f88 : Fr (· = C) w86 w88 := by rw [h88]; exact Fr.set (· = C) w86 (a := ⟨C, 5, none⟩) _ rfl
    have z88 := ((z81.stepB f83 (by omega)).stepB f86 (by omega)).stepB f88 (by omega)
    have o88 := ((o81.keep f83 fun q hq e => by have := ho58 q hq; omega).keep f86 fun q hq e => by have := (o51.blk hq).1; omega).keep f88 fun q hq e => by have := ho58 q hq; omega
    have r88 := r86.keep f88 (by omega)
    refine ⟨_, _, _, _, _, _, _, box_load hC88 (by kernel_rfl) (by kernel_rfl), fun w96 h96 => ?_⟩
    have hb88 := lt_blk r88.1
    obtain ⟨w97, l98, hr97, o97, f97, _⟩ := append_oneK elT o88 (x := (x, (outZ (es.take k)).length)) (by have := hel k; unfold maxLen; omega) (by have := hel k; omega) (by omega) h96
    have e1 : IntKind.i64.wrap ((k : Int) + 1) = ((k + 1 : Nat) : Int) := by rw [wrap_i64 (by omega) (by omega)]; omega
    rw [e1]
    have hent : (entsZ 0 es).take (k + 1) = (entsZ 0 es).take k ++ [(x, (outZ (es.take k)).length)] := by
      rw [List.take_add_one, entsZ_get 0 es k x hxk, Nat.zero_add]; rfl
    refine ⟨w97, l98, hr97, ⟨k + 1, _, rfl, by omega, z88.step f97 ?_, by rw [hrest]; exact r88.keep f97 (by rintro ⟨y, hy, e⟩; have := (o51.blk hy).1; omega), by rw [hent]; exact o97⟩, by dsimp only; omega⟩
    rintro q _ ⟨y, hy, e⟩; have := (o51.blk hy).1; omega
  · have hge := of_decide_eq_false hge
    have hk' : k = es.length := by omega
    subst hk'
    rw [List.drop_length] at r51
    rw [List.take_of_length_le (by rw [entsZ_length]; exact Nat.le_refl _)] at o51
    have hkk := r51.size
    intro w99 d99
    have f99 : Fr (fun _ => False) w51 w99 := .drew _ d99
    have z99 := z51.step0 f99
    have r99 := r51.keep f99 (by simp)
    have o99 := o51.keep f99 (by simp)
    refine ⟨fun w' => RdR w' B s1' [] kk, r99, kk, fun w' h => by rw [cell_blk h.1]; rfl, s1', fun w' h => by rw [cell_blk h.1]; rfl, (must_spec (by simp only [idxZ, List.length_nil] at hkk; rw [← hkk]; simp) 3 w99).mono ?_⟩
    rintro e w106 ⟨rfl, rfl⟩
    refine ⟨rfl, ⟨by omega, by omega⟩, wr_blk r99.1 (Nat.lt_of_lt_of_eq (by decide : 0 < 2) rfl), fun w107 h107 => ?_⟩
    rw [Int.toNat_natCast] at h107
    obtain ⟨s2', hs2'⟩ : ∃ x : ByteArray, s.extract 0 (outZ es).length = x := ⟨_, rfl⟩
    rw [hs2'] at h107
    have hb107 : w107.heap[B]? = some (.cells #[.string s2', .int .i64 (kk : Int)] T_zip_reader (0, 0)) := by rw [h107, set_blk r99.1]; rfl
    have f107 : Fr (· = B) w106 w107 := by rw [h107]; exact Fr.set (· = B) w106 (a := ⟨B, 0, none⟩) _ rfl
    refine ⟨wr_blk hb107 (Nat.lt_of_lt_of_eq (by decide : 1 < 2) rfl), fun w108 h108 => ?_⟩
    have hb108 : w108.heap[B]? = some (.cells #[.string s2', .int .i64 ((0 : Nat) : Int)] T_zip_reader (0, 0)) := by rw [h108, set_blk hb107]; rfl
    have f108 : Fr (· = B) w107 w108 := by rw [h108]; exact Fr.set (· = B) w107 (a := ⟨B, 1, none⟩) _ rfl
    have hs2l : s2'.data.toList = outZ es := by
      rw [← hs2', bs_head, hg.text]
      unfold arcZ
      exact List.take_left
    have z108 := (z99.stepB f107 (by omega)).stepB f108 (by omega)
    have hlB : ∀ q, l.a = some q → B + 1 ≤ q.block := fun q hq => (o51.blk hq).1
    have o108 := (o99.keep f107 fun q hq e => by have := hlB q hq; omega).keep f108 fun q hq e => by have := hlB q hq; omega
    have r108 : RdR w108 B s2' (outZ es) 0 := ⟨hb108, by rw [hs2l]; rfl, Nat.zero_le _⟩
    have hs2s : s2'.size = (outZ es).length := by rw [← bs_len, hs2l]
    clear hb107 hb108 h107 h108 f107 f108 o51 r51 z51 z99 r99 o99 f99
    have hll : l.len = es.length := by have := o108.len; rw [entsZ_length] at this; exact this
    have hlw := fun q hq => (o108.blk (x := q) hq).2
    refine ⟨fun all i w' => ∃ (k : Nat) (lf : Sl), i = k ∧ k ≤ es.length ∧ all = (totalF ((es.map filZ).take k) : Int) ∧ ZSt w lf w' ∧ RdR w' B s2' (outZ (es.drop k)) (outZ (es.take k)).length ∧ OwnK encT 7 w' (B + 1) T_zip_entry l (entsZ 0 es) ∧ OwnK encF 2 w' (B + 1) T_api_File lf ((es.map filZ).take k) ∧ (∀ p q, l.a = some p → lf.a = some q → p.block ≠ q.block), fun all i _ => es.length - i.toNat,
      ⟨0, ⟨none, 0, 0⟩, rfl, Nat.zero_le _, rfl, z108, r108, o108, OwnK.nil _ _ _, fun p q hp hq => by cases hq⟩, ?_⟩
    clear z108 r108 o108
    rintro all i w113 ⟨k, lf, rfl, hk, rfl, z113, r113, o113, p113, hdis⟩
    have hBw := lt_blk r113.1
    refine ⟨fun hlt => ?_, fun hge => ?_⟩
    · have hlt := of_decide_eq_true hlt
      have hkl : k < es.length := by omega
      have hxk : es[k]? = some es[k] := List.getElem?_eq_getElem hkl
      generalize es[k] = x at hxk
      have hxm := List.mem_of_getElem? hxk
      obtain ⟨hx1, hx2, hx3, hx4⟩ := hx x hxm
      have hcr := (crcW x.data.data.toList).isLt
      have hyk : (es.map filZ)[k]? = some (filZ x) := by rw [List.getElem?_map, hxk]; rfl
      have hT1 := totalF_take hyk
      have hT2 := totalF_le (es.map filZ) (k + 1)
      have hxd : (filZ x).data.size = x.data.size := rfl
      rw [hxd] at hT1
      obtain ⟨off, hoff⟩ : ∃ o, (outZ (es.take k)).length = o := ⟨_, rfl⟩
      have hok : off ≤ 2097152 := by
        have := congrArg List.length (outZ_drop es k)
        rw [List.length_append] at this
        omega
      have hent := entsZ_get 0 es k x hxk
      rw [Nat.zero_add, hoff] at hent
      rw [hoff] at r113
      obtain ⟨a114, ha114, hrun114⟩ := (o113.reads elT.len).load elT hent
      rw [Int.toNat_natCast]
      refine ⟨⟨by omega, by omega⟩, a114, ha114, _, _, _, _, _, _, _, hrun114, fun w122 h122 => ?_⟩
      have f122 : Fr (fun _ => False) w113 w122 := by rw [h122]; exact .alloc _ _ _
      have hD122 : w122.heap[w113.heap.size]? = some (.cells #[.int .i64 0, .int .u32 0, .int .i64 0, .int .i64 0, .int .i64 0, .string ⟨#[]⟩, .int .i64 0] T_zip_entry (0, 0)) := by rw [h122]; exact alloc_new _ _
      clear h122
      obtain ⟨w123, hrun123, hD123, f123⟩ := box_store (encT (x, off)) hD122 (by kernel_rfl) rfl (encT_one _)
      have hlD : ∀ q, l.a = some q → q.block < w113.heap.size := fun q hq => (o113.blk hq).2
      have hpD : ∀ q, lf.a = some q → q.block < w113.heap.size := fun q hq => (p113.blk hq).2
      have hlB' : ∀ q, l.a = some q → B + 1 ≤ q.block := fun q hq => (o113.blk hq).1
      have hpB : ∀ q, lf.a = some q → B + 1 ≤ q.block := fun q hq => (p113.blk hq).1
      generalize hDD : w113.heap.size = D at *
      have z123 := (z113.step0 f122).stepB f123 (by omega)
      have r123 := (r113.keep f122 (by simp)).keep f123 (by omega)
      have o123 := (o113.keep f122 (by simp)).keep f123 fun q hq e => by have := hlD q hq; omega
      have p123 := (p113.keep f122 (by simp)).keep f123 fun q hq e => by have := hpD q hq; omega
      refine ⟨w123, hrun123, fun w124 d124 => ?_⟩
      have f124 : Fr (fun _ => False) w123 w124 := .drew _ d124
      have hD124 := f124.keep hD123 (by simp)
      have z124 := z123.step0 f124
      have r124 := r123.keep f124 (by simp)
      have o124 := o123.keep f124 (by simp)
      have p124 := p123.keep f124 (by simp)
      clear z113 r113 o113 p113 z123 r123 o123 p123 f122 f123 hD122 hD123
      have hc : ∀ {w' : World}, w'.heap[D]? = some (.cells (encT (x, off)).toArray T_zip_entry (0, 0)) → ∀ {j : Nat} {v : Value}, (encT (x, off))[j]? = some v → w'.cell? ⟨D, j, none⟩ = some v := fun hf j v hv => by
        rw [cell_blk hf]; simpa using hv
      rw [outZ_at hxk] at r124
      obtain ⟨rest, hrest⟩ : ∃ r, outZ (es.drop (k + 1)) = r := ⟨_, rfl⟩
      rw [hrest] at r124
      have hlz : locZ x ++ rest = [80, 75, 3, 4] ++ (factZ x ++ (x.path.data.toList ++ (x.packed.data.toList ++ rest))) := by
        unfold locZ; simp only [List.append_assoc]
      rw [hlz] at r124
      refine ⟨fun w' => w' = w124, rfl, off, fun w' e => by rw [e]; exact hc hD124 (j := 6) rfl, off, fun w' e => by rw [e, cell_blk r124.1]; rfl, (must_spec (by simp) 3 w124).mono ?_⟩
      rintro e w131 ⟨rfl, rfl⟩
      refine ⟨rfl, (wantL_spec r124 rfl (by omega)).mono ?_⟩
      rintro e w133 ⟨rfl, r133, f133⟩
      have hD133 := f133.keep hD124 (by omega)
      refine ⟨rfl, fun w134 d134 => ?_⟩
      have f134 : Fr (fun _ => False) w133 w134 := .drew _ d134
      have hD134 := f134.keep hD133 (by simp)
      have hld76 : ∀ {w' : World}, w'.heap[D]? = some (.cells (encT (x, off)).toArray T_zip_entry (0, 0)) → (loadVar T_zip_head ⟨D, 0, none⟩).run Tryz.prog w' = .ok (.agg (headZ x).toArray) w' := fun h =>
        load_agg (agg_of (by kernel_rfl)) (by kernel_rfl) fun j v hv => by
          rw [show (⟨D, 0, none⟩ : Addr).add j = ⟨D, j, none⟩ by rw [add_lit, Nat.zero_add]]
          refine hc h ?_
          unfold encT
          rw [List.getElem?_append_left (List.getElem?_eq_some_iff.1 hv).1]
          exact hv
      refine ⟨fun w' => w'.heap[D]? = some (.cells (encT (x, off)).toArray T_zip_entry (0, 0)), hD134, _, _, _, _, _, fun w' h => hld76 h, (head_spec (r133.keep f134 (by simp)) hx2 hcr (by omega) (by omega) (by omega) (by omega)).mono ?_⟩
      rintro e w143 ⟨rfl, r143, f143⟩
      have hD143 := f143.keep hD134 (by omega)
      refine ⟨_, _, _, _, _, rfl, hD143, (must_spec (by simp) 3 w143).mono ?_⟩
      rintro e w150 ⟨rfl, rfl⟩
      refine ⟨rfl, x.path, hc hD143 (j := 5) rfl, (wantL_spec r143 rfl (by omega)).mono ?_⟩
      rintro e w153 ⟨rfl, r153, f153⟩
      have hD153 := f153.keep hD143 (by omega)
      refine ⟨rfl, x.packed.size, hc hD153 (j := 2) rfl, (take_spec r153 (bs_len _) (by omega)).mono ?_⟩
      rintro e w156 ⟨rfl, r156, f156⟩
      have hD156 := f156.keep hD153 (by omega)
      have e2 : IntKind.i64.wrap ((totalF ((es.map filZ).take k) : Int) + (x.data.size : Int)) = (totalF ((es.map filZ).take (k + 1)) : Int) := by rw [wrap_i64 (by omega) (by omega)]; omega
      refine ⟨_, rfl, x.data.size, hc hD156 (j := 3) rfl, (must_spec (by rw [e2]; exact decide_eq_true (by omega)) 2 w156).mono ?_⟩
      rintro e w160 ⟨rfl, rfl⟩
      have f124_156 : Fr (· = B) w131 w160 := (((f133.trans' (f134.mono fun _ _ h => h.elim)).trans' f143).trans' f153).trans' f156
      have z160 := z124.stepB f124_156 (by omega)
      have o160 := o124.keep f124_156 fun q hq e => by have := hlB' q hq; omega
      have p160 := p124.keep f124_156 fun q hq e => by have := hpB q hq; omega
      refine ⟨rfl, fun w161 d161 => ?_⟩
      have f161 : Fr (fun _ => False) w160 w161 := .drew _ d161
      have z161 := z160.step0 f161
      have hD161 := f161.keep hD156 (by simp)
      refine ⟨fun w' => ZSt w lf w' ∧ w'.heap[D]? = some (.cells (encT (x, off)).toArray T_zip_entry (0, 0)), ⟨z161, hD161⟩, lf, fun w' h => by rw [cell_blk h.1.A]; rfl, x.path, fun w' h => hc h.2 (j := 5) rfl, _, _, _, _, _, _, _, fun w' h => box_load h.2 (by kernel_rfl) (by kernel_rfl), ?_⟩
      rw [bs_self]
      refine (unpack_spec x off (hg.unp x hxm) w161).mono ?_
      rintro e w176 ⟨rfl, f176⟩
      have z176 := z161.step0 f176
      have hD176 := f176.keep hD161 (by simp)
      refine ⟨_, rfl, ⟨z176, hD176⟩, fun w178 h178 => ?_⟩
      have f178 : Fr (fun _ => False) w176 w178 := by rw [h178]; exact .alloc _ _ _
      have o176 := (o160.keep f161 (by simp)).keep f176 (by simp)
      have p176 := (p160.keep f161 (by simp)).keep f176 (by simp)
      have r176 := (r156.keep f161 (by simp)).keep f176 (by simp)
      have hD_w := lt_blk hD176
      obtain ⟨w179, l180, hr179, p179, f179, s179⟩ := append_oneK elF p176 (x := filZ x) (by rw [List.length_take]; unfold maxLen; omega) (by rw [List.length_take]; omega) (by omega) h178
      have hnD : ∀ q, At lf q → B + 1 ≤ q ∧ q < D := fun q ⟨y, hy, e⟩ => by have h1 := hpB y hy; have h2 := hpD y hy; omega
      have hr' : ∃ w'', (Builtin.append_ #[T_S_api_File, T_S_api_File] T_S_api_File #[.slice lf.a lf.len lf.cap, .slice (some ⟨w176.heap.size, 0, none⟩) 1 1]).run Tryz.prog w178 = .ok (.slice l180.a l180.len l180.cap) w'' := ⟨_, hr179⟩
      refine ⟨⟨z176.step0 f178, f178.keep hD176 (by simp)⟩, w179, l180, hr179, ⟨z176.step f179 fun q _ hq => by have := hnD q hq; omega, f179.keep hD176 fun hq => by have := hnD _ hq; omega⟩, ?_⟩
      have z179 := z176.step f179 fun q _ hq => by have := hnD q hq; omega
      refine ⟨wr_blk z179.A (Nat.lt_succ_self 0), fun w181 h181 => ?_⟩
      have hAB : w.heap.size + 2 = B := hBB
      have f181 : Fr (· = w.heap.size) w179 w181 := by rw [h181]; exact Fr.set (· = w.heap.size) w179 (a := ⟨w.heap.size, 0, none⟩) _ rfl
      have z181 : ZSt w l180 w181 := ⟨z179.fr.trans f181 fun q hq e => by omega, by rw [h181, set_blk z179.A]; rfl, f181.keep z179.E (by omega)⟩
      have hl180 : ∀ q, l180.a = some q → (∃ y, lf.a = some y ∧ y.block = q.block) ∨ w176.heap.size ≤ q.block := fun q hq => by
        rcases s179 q hq with ⟨y, hy, e⟩ | h
        · exact .inl ⟨y, hy, e⟩
        · exact .inr h
      have e1 : IntKind.i64.wrap ((k : Int) + 1) = ((k + 1 : Nat) : Int) := by rw [wrap_i64 (by omega) (by omega)]; omega
      have hyt : (es.map filZ).take (k + 1) = (es.map filZ).take k ++ [filZ x] := by rw [List.take_add_one, hyk]; rfl
      have hpos : (outZ (es.take (k + 1))).length = off + [(80 : UInt8), 75, 3, 4].length + 26 + x.path.data.toList.length + x.packed.size := by
        rw [outZ_len_take hxk, hoff, locZ_len, bs_len]; simp only [List.length_cons, List.length_nil]; omega
      rw [e1, e2]
      refine ⟨⟨k + 1, l180, rfl, by omega, rfl, z181, ?_, (o176.keep f179 fun q hq ⟨y, hy, e⟩ => hdis q y hq hy e).keep f181 fun q hq e => by have := hlB' q hq; omega, by rw [hyt]; exact p179.keep f181 fun q hq e => by have := (p179.blk hq).1; omega, fun p q hp hq => ?_⟩, by dsimp only; omega⟩
      · rw [hrest, hpos]
        exact (r176.keep f179 fun hq => by have := hnD _ hq; omega).keep f181 (by omega)
      · rcases hl180 q hq with ⟨y, hy, e⟩ | h
        · rw [← e]; exact hdis p y hp hy
        · have := hlD p hp; omega
    · have hge := of_decide_eq_false hge
      have hk' : k = es.length := by omega
      subst hk'
      rw [List.drop_length] at r113
      rw [List.take_of_length_le (by rw [List.length_map]; exact Nat.le_refl _)] at p113
      rw [List.take_length] at r113
      have hyl : (es.map filZ).length = lf.len := p113.1
      refine ⟨(outZ es).length, by rw [cell_blk r113.1]; rfl, (must_spec (by simp) 3 w113).mono ?_⟩
      rintro e w184 ⟨rfl, rfl⟩
      refine ⟨rfl, lf, by rw [cell_blk z113.A]; rfl, (zcheck_spec (c := lf.cap) (p113.reads elF.len) hyl (by rw [← hyl, List.length_map]; omega) (fun y hy => ?_) (by omega)).mono ?_⟩
      · obtain ⟨z, hz, rfl⟩ := List.mem_map.1 hy
        have := (hx z hz).1
        have h2 : (filZ z).path = z.path := rfl
        rw [h2]; omega
      rintro e w187 ⟨rfl, f187⟩
      rw [hg.chk]
      have z187 := z113.step0 f187
      refine ⟨0, rfl, fun h => absurd h (by decide), fun _ => ⟨lf, by rw [cell_blk z187.A]; rfl, wr_blk z187.A (Nat.lt_succ_self 0), fun w198 h198 => ?_⟩⟩
      have f198 : Fr (· = w.heap.size) w187 w198 := by rw [h198]; exact Fr.set (· = w.heap.size) w187 (a := ⟨w.heap.size, 0, none⟩) _ rfl
      have z198 : ZSt w lf w198 := ⟨z187.fr.trans f198 fun q hq e => by omega, by rw [h198, set_blk z187.A]; rfl, f198.keep z187.E (by omega)⟩
      refine ⟨wr_blk z198.E (Nat.lt_succ_self 0), fun w199 h199 => ?_⟩
      have f199 : Fr (· = w.heap.size + 1) w198 w199 := by rw [h199]; exact Fr.set (· = w.heap.size + 1) w198 (a := ⟨w.heap.size + 1, 0, none⟩) _ rfl
      have z199 : ZSt w lf w199 := ⟨z198.fr.trans f199 fun q hq e => by omega, f199.keep z198.A (by omega), by rw [h199, set_blk z198.E]; rfl⟩
      refine (catch_idle _ _ w199).mono ?_
      rintro e u w202 ⟨rfl, rfl, rfl⟩
      refine ⟨⟨_, rfl⟩, rfl, lf, load_one (by kernel_rfl) (by rw [cell_blk z199.A]; rfl), 0, load_one (by kernel_rfl) (by rw [cell_blk z199.E]; rfl), lf, rfl, ?_, z199.fr.mono fun q hq h => by omega⟩
      exact (((p113.keep f187 (by simp)).keep f198 fun q hq e => by have := (p113.blk hq).1; omega).keep f199 fun q hq e => by have := (p113.blk hq).1; omega).mono (by omega)
end Go.Proofs.YtfoeooddnmppnaaGreatDoor

/- Archives of stored files are right. No condition. -/
set_option linter.unusedVariables false
namespace Go.Proofs.YtfoeooddnmppnaaGreatDoor
open Go Vc SumM Go.Proofs

theorem zipL_len (ys : List FileE) : (zipL ys).length = (outL ys).length + ((idxL 0 ys).length + 22) := by
  unfold zipL
  rw [List.length_append, List.length_append, endL_len]
theorem good_sto {ys : List FileE} (h0 : zchk ys = 0) (hs : (zipL ys).length ≤ 2097152) : GoodZ (ys.map stoZ) ⟨(zipL ys).toArray⟩ := by
  obtain ⟨h1, h2, h3⟩ := zchk_ok h0
  refine ⟨by rw [bs_mk, arcZ_sto], by rw [bs_mksize]; exact hs, by rw [fil_sto]; exact h0, fun x hx => ?_⟩
  obtain ⟨y, hy, rfl⟩ := List.mem_map.1 hx
  refine sto_unp ?_
  have : ∀ zs : List FileE, y ∈ zs → y.data.size ≤ totalF zs := fun zs => by
    induction zs with
    | nil => intro h; simp at h
    | cons z r ih =>
      intro h
      unfold totalF at *
      rw [List.map_cons, List.sum_cons]
      rcases List.mem_cons.1 h with rfl | h
      · omega
      · have := ih h; omega
  have := this ys hy
  omega
theorem zipL_le {ys : List FileE} (h0 : zchk ys = 0) : (zipL ys).length ≤ 1500000 := by
  obtain ⟨h1, h2, h3⟩ := zchk_ok h0
  have hp : ∀ y ∈ ys, y.path.size ≤ 200 := fun y hy => by
    have := h3 y hy
    unfold cleanB at this
    simp only [Bool.and_eq_true, decide_eq_true_eq] at this
    omega
  have a1 := outL_len (B := 200) ys hp
  have a2 := idxL_len (B := 200) 0 ys hp
  have a3 : ys.length * (30 + 200) ≤ 600 * 230 := Nat.mul_le_mul h1 (by omega)
  have a4 : ys.length * (46 + 200) ≤ 600 * 246 := Nat.mul_le_mul h1 (by omega)
  rw [zipL_len]; omega
end Go.Proofs.YtfoeooddnmppnaaGreatDoor

/- Beginnings of texts in plain. No condition. -/
set_option linter.unusedVariables false
namespace Go.Proofs.YtfoeooddnmppnaaGreatDoor
open Go Vc Go.Proofs

/-- Does s begin with t? -/
def begB (s t : ByteArray) : Bool := decide (t.data.toList <+: s.data.toList)
theorem begB_cut {s t : ByteArray} (h : t.size ≤ s.size) : (ByteArray.toList (s.extract 0 t.size) == ByteArray.toList t) = begB s t := by
  rw [bs_eq]
  unfold begB
  refine decide_eq_decide.2 ⟨fun e => ?_, fun e => ?_⟩
  · rw [← e, bs_head]; exact List.take_prefix _ _
  · obtain ⟨r, hr⟩ := e
    refine bs_ext ?_
    rw [bs_head, ← hr, ← bs_len, List.take_left]
theorem begB_short {s t : ByteArray} (h : ¬ t.size ≤ s.size) : begB s t = false := decide_eq_false fun e => h (by rw [← bs_len, ← bs_len]; exact e.length_le)
theorem beg_le {s t : ByteArray} (h : begB s t = true) : t.size ≤ s.size := by
  have := (of_decide_eq_true h : t.data.toList <+: s.data.toList).length_le
  rw [bs_len, bs_len] at this; exact this
theorem pre_between : ∀ (a b c : List UInt8), ¬ b < a → ¬ c < b → a <+: c → a <+: b
  | [], b, c, _, _, _ => List.nil_prefix
  | x :: a, [], c, h, _, _ => absurd (List.nil_lt_cons x a) h
  | x :: a, y :: b, [], _, _, h => by simp at h
  | x :: a, y :: b, z :: c, h1, h2, h3 => by
    rw [List.cons_prefix_cons] at h3 ⊢
    obtain ⟨rfl, h3⟩ := h3
    rw [List.cons_lt_cons_iff] at h1 h2
    have e1 : ¬ y < x := fun h => h1 (.inl h)
    have e2 : ¬ x < y := fun h => h2 (.inl h)
    have e : x = y := UInt8.toNat_inj.1 (by rw [UInt8.lt_iff_toNat_lt] at e1 e2; omega)
    subst e
    exact ⟨rfl, pre_between a b c (fun h => h1 (.inr ⟨rfl, h⟩)) (fun h => h2 (.inr ⟨rfl, h⟩)) h3⟩
theorem pre_le : ∀ (a c : List UInt8), a <+: c → ¬ c < a
  | [], c, _ => by simp
  | x :: a, [], h => by simp at h
  | x :: a, z :: c, h => by
    rw [List.cons_prefix_cons] at h
    obtain ⟨rfl, h⟩ := h
    rw [List.cons_lt_cons_iff]
    rintro (h1 | ⟨_, h1⟩)
    · rw [UInt8.lt_iff_toNat_lt] at h1; omega
    · exact pre_le a c h h1
theorem filter_mid {α : Type} (f : α → Bool) (xs : List α) {i m : Nat} (him : i ≤ m) (h1 : ∀ k x, xs[k]? = some x → k < i → f x = false) (h2 : ∀ k x, xs[k]? = some x → i ≤ k → k < m → f x = true) (h3 : ∀ k x, xs[k]? = some x → m ≤ k → f x = false) : xs.filter f = (xs.take m).drop i := by
  have hx : xs = (xs.take m).take i ++ (xs.take m).drop i ++ xs.drop m := by rw [List.take_append_drop, List.take_append_drop]
  have e1 : ((xs.take m).take i).filter f = [] := by
    rw [List.filter_eq_nil_iff]
    intro x hx
    obtain ⟨k, hk⟩ := List.mem_iff_getElem?.1 hx
    rw [List.getElem?_take] at hk
    split at hk
    · rename_i hki
      rw [List.getElem?_take, if_pos (by omega)] at hk
      rw [h1 k x hk hki]; decide
    · cases hk
  have e2 : ((xs.take m).drop i).filter f = (xs.take m).drop i := by
    rw [List.filter_eq_self]
    intro x hx
    obtain ⟨k, hk⟩ := List.mem_iff_getElem?.1 hx
    rw [List.getElem?_drop, List.getElem?_take] at hk
    split at hk
    · rename_i hki
      exact h2 _ x hk (by omega) hki
    · cases hk
  have e3 : (xs.drop m).filter f = [] := by
    rw [List.filter_eq_nil_iff]
    intro x hx
    obtain ⟨k, hk⟩ := List.mem_iff_getElem?.1 hx
    rw [List.getElem?_drop] at hk
    rw [h3 _ x hk (by omega)]; decide
  conv => lhs; rw [hx]
  rw [List.filter_append, List.filter_append, e1, e2, e3, List.nil_append, List.append_nil]
end Go.Proofs.YtfoeooddnmppnaaGreatDoor

/- Does a text stand in another one, or at its end, in plain. No condition. -/
set_option linter.unusedVariables false
namespace Go.Proofs.YtfoeooddnmppnaaGreatDoor
open Go Vc Go.Proofs

/-- Does t stand somewhere? -/
def hasL (t : List UInt8) : List UInt8 → Bool
  | [] => t.isEmpty
  | c :: r => t.isPrefixOf (c :: r) || hasL t r
theorem hasL_index (t : List UInt8) : ∀ l : List UInt8, decide (0 ≤ Lib.index l t) = hasL t l
  | [] => by
    unfold Lib.index hasL
    cases t.isEmpty <;> rfl
  | c :: r => by
    have ih := hasL_index t r
    have hg := Lib.index_ge r t
    rw [hasL, Lib.index]
    by_cases hp : t.isPrefixOf (c :: r) = true
    · rw [if_pos hp, hp]; rfl
    · rw [if_neg hp, Bool.eq_false_iff.2 hp, Bool.false_or, ← ih]
      by_cases h1 : Lib.index r t = -1
      · rw [if_pos (by rw [h1]; rfl), h1]
      · rw [if_neg (by simpa using h1)]
        exact decide_eq_decide.2 (by omega)
theorem hasL_front (t b : List UInt8) (h : hasL t b = true) : ∀ a : List UInt8, hasL t (a ++ b) = true
  | [] => h
  | c :: r => by rw [List.cons_append, hasL, hasL_front t b h r, Bool.or_true]
def sufL (t l : List UInt8) : Bool := decide (t <:+ l)
theorem hasL_pre {t l : List UInt8} (h : t <+: l) : hasL t l = true := by
  cases l with
  | nil =>
    have := List.prefix_nil.1 h
    subst this; rfl
  | cons c r => rw [hasL, List.isPrefixOf_iff_prefix.2 h]; rfl
theorem hasL_short {t : List UInt8} : ∀ {l : List UInt8}, l.length < t.length → hasL t l = false
  | [], h => by
    cases t with
    | nil => simp at h
    | cons a b => rfl
  | c :: r, h => by
    rw [hasL, hasL_short (l := r) (by simp at h; omega), Bool.or_false, Bool.eq_false_iff]
    intro hp
    have := (List.isPrefixOf_iff_prefix.1 hp).length_le
    omega
theorem hasL_step {t l : List UInt8} {k : Nat} (hk : k < l.length) (hn : ¬ t <+: l.drop k) : hasL t (l.drop k) = hasL t (l.drop (k + 1)) := by
  rw [List.drop_eq_getElem_cons hk] at hn ⊢
  rw [hasL, Bool.eq_false_iff.2 (fun h => hn (List.isPrefixOf_iff_prefix.1 h)), Bool.false_or]
theorem ext_pre {s t : ByteArray} {k : Nat} (h : k + t.size ≤ s.size) : decide (s.extract k (k + t.size) = t) = decide (t.data.toList <+: s.data.toList.drop k) := by
  refine decide_eq_decide.2 ?_
  rw [List.prefix_iff_eq_take, bs_len]
  refine ⟨fun e => ?_, fun e => bs_ext ?_⟩
  · conv => lhs; rw [← e]
    rw [bs_extract, show k + t.size - k = t.size by omega]
  · rw [bs_extract, show k + t.size - k = t.size by omega]; exact e.symm
def cutPre (s t : ByteArray) : ByteArray := if begB s t = true then s.extract t.size s.size else s
def cutSuf (s t : ByteArray) : ByteArray := if sufL t.data.toList s.data.toList = true then s.extract 0 (s.size - t.size) else s
end Go.Proofs.YtfoeooddnmppnaaGreatDoor

/- Digits of bytes in plain; append of what is new. No condition. -/
set_option linter.unusedVariables false
namespace Vc
open Go
theorem append_new {P : Program} {t e : TypeId} {z : Value} {bytes : Nat} {w : World} {base : Nat} {l : Sl} {xs : List Value} (el : El P t e z bytes) (h : Own w base e l xs) {news : List Value} (h1 : ∀ u ∈ news, u.oneCell' = true)
    (hm : xs.length + news.length ≤ maxLen) (hb : (xs.length + news.length) * bytes ≤ 140737488355328) (hbase : base ≤ w.heap.size) {w2 : World} (hw2 : w2 = w.alloc (.cells news.toArray e)) {m : Nat} (hlen : news.length = m) :
    ∃ w' l', (Builtin.append_ #[t, t] t #[.slice l.a l.len l.cap, .slice (some ⟨w.heap.size, 0, none⟩) m m]).run P w2 = .ok (.slice l'.a l'.len l'.cap) w' ∧ Own w' base e l' (xs ++ news) ∧
      Fr (At l) w w' ∧ Since w l l' := by
  subst hw2
  have h2 : Own (w.alloc (.cells news.toArray e)) base e l xs := h.keep (.alloc (fun _ => False) _ _) (by simp)
  obtain ⟨w', l', hr, ho, hf, hs⟩ := append_all' el h2 (src := some ⟨w.heap.size, 0, none⟩) m (news := news) (fun i v hv => ⟨_, rfl, by rw [add_lit, Nat.zero_add, cell_blk (alloc_new w _)]; simpa using hv⟩) h1 hm hb (by simp; omega) hlen
  refine ⟨w', l', hr, ho, (Fr.alloc _ _ _).trans' hf, fun y hy => ?_⟩
  rcases hs y hy with hx | hn
  · exact .inl hx
  · simp only [World.alloc, Array.size_push] at hn
    exact .inr (by omega)
end Vc
namespace HexM
/-- A digit. -/
def hx (n : Nat) : Nat := if n < 10 then 48 + n else 87 + n
theorem hx_lt {n : Nat} (h : n < 16) : hx n < 256 := by unfold hx; split <;> omega
def hexL (l : List UInt8) : List UInt8 := l.flatMap fun c => [UInt8.ofNat (hx (c.toNat / 16)), UInt8.ofNat (hx (c.toNat % 16))]
theorem hexL_snoc (l : List UInt8) (c : UInt8) : hexL (l ++ [c]) = hexL l ++ [UInt8.ofNat (hx (c.toNat / 16)), UInt8.ofNat (hx (c.toNat % 16))] := by simp [hexL]
theorem hexL_length (l : List UInt8) : (hexL l).length = 2 * l.length := by
  induction l with
  | nil => rfl
  | cons c l ih => simp only [hexL, List.flatMap_cons, List.length_append, List.length_cons, List.length_nil] at ih ⊢; omega
/-- A digit's number. -/
def dg (c : Nat) : Option Nat := if 48 ≤ c ∧ c ≤ 57 then some (c - 48) else if 97 ≤ c ∧ c ≤ 102 then some (c - 87) else none
theorem dg_lt {c n : Nat} (h : dg c = some n) : n < 16 := by
  unfold dg at h
  split at h
  · cases h; omega
  · split at h
    · cases h; omega
    · cases h
theorem dg_hx {n : Nat} (h : n < 16) : dg (hx n) = some n := by
  unfold hx dg
  split
  · rw [if_pos (by omega)]; congr 1; omega
  · rw [if_neg (by omega), if_pos (by omega)]; congr 1; omega
theorem hx_dg {c n : Nat} (h : dg c = some n) : hx n = c := by
  unfold dg at h
  unfold hx
  split at h
  · cases h; rw [if_pos (by omega)]; omega
  · split at h
    · cases h; rw [if_neg (by omega)]; omega
    · cases h
def unhexL : List UInt8 → Option (List UInt8)
  | [] => some []
  | [_] => none
  | a :: b :: r => match dg a.toNat, dg b.toNat, unhexL r with
    | some x, some y, some l => some (UInt8.ofNat (16 * x + y) :: l)
    | _, _, _ => none
theorem unhexL_len : ∀ (l r : List UInt8), unhexL l = some r → l.length = 2 * r.length
  | [], r, h => by simp only [unhexL, Option.some.injEq] at h; subst h; rfl
  | [_], r, h => by simp [unhexL] at h
  | a :: b :: l, r, h => by
    simp only [unhexL] at h
    split at h
    · rename_i x y q h1 h2 h3
      cases h
      have := unhexL_len l q h3
      simp only [List.length_cons]; omega
    · cases h
theorem unhex_hex : ∀ l : List UInt8, unhexL (hexL l) = some l
  | [] => rfl
  | c :: l => by
    have hc := c.toNat_lt
    have h1 : (UInt8.ofNat (hx (c.toNat / 16))).toNat = hx (c.toNat / 16) := by have := hx_lt (n := c.toNat / 16) (by omega); simp; omega
    have h2 : (UInt8.ofNat (hx (c.toNat % 16))).toNat = hx (c.toNat % 16) := by have := hx_lt (n := c.toNat % 16) (by omega); simp; omega
    have : hexL (c :: l) = UInt8.ofNat (hx (c.toNat / 16)) :: UInt8.ofNat (hx (c.toNat % 16)) :: hexL l := rfl
    rw [this, unhexL, h1, h2, dg_hx (by omega), dg_hx (by omega), unhex_hex l]
    simp only [Option.some.injEq, List.cons.injEq, and_true]
    rw [show 16 * (c.toNat / 16) + c.toNat % 16 = c.toNat by omega, UInt8.ofNat_toNat]
theorem hex_unhex : ∀ (l r : List UInt8), unhexL l = some r → hexL r = l
  | [], r, h => by simp only [unhexL, Option.some.injEq] at h; subst h; rfl
  | [_], r, h => by simp [unhexL] at h
  | a :: b :: l, r, h => by
    simp only [unhexL] at h
    split at h
    · rename_i x y q h1 h2 h3
      cases h
      have hx1 := dg_lt h1
      have hy1 := dg_lt h2
      have e : (UInt8.ofNat (16 * x + y)).toNat = 16 * x + y := by simp; omega
      show UInt8.ofNat (hx ((UInt8.ofNat (16 * x + y)).toNat / 16)) :: UInt8.ofNat (hx ((UInt8.ofNat (16 * x + y)).toNat % 16)) :: hexL q = _
      rw [e, show (16 * x + y) / 16 = x by omega, show (16 * x + y) % 16 = y by omega, hx_dg h1, hx_dg h2, UInt8.ofNat_toNat, UInt8.ofNat_toNat, hex_unhex l q h3]
    · cases h
/-- All are digits. -/
def digits (l : List UInt8) : Bool := l.all fun c => (dg c.toNat).isSome
theorem unhexL_iff : ∀ l : List UInt8, (unhexL l).isSome = (digits l && l.length % 2 == 0)
  | [] => rfl
  | [a] => by simp [unhexL]
  | a :: b :: l => by
    have ih := unhexL_iff l
    have hl : (a :: b :: l).length % 2 = l.length % 2 := by simp only [List.length_cons]; omega
    rw [hl]
    simp only [unhexL, digits, List.all_cons] at ih ⊢
    cases h1 : dg a.toNat <;> cases h2 : dg b.toNat <;> simp
    cases h3 : unhexL l <;> rw [h3] at ih <;> simp at ih ⊢ <;> simpa using ih
/-- An object's name. -/
def isId (l : List UInt8) : Bool := (unhexL l).isSome && l.length == 40
theorem unhexL_take : ∀ (n : Nat) (l : List UInt8) (r : List UInt8), unhexL (l.take (2 * n)) = some r → 2 * n ≤ l.length → ∀ a b : UInt8, l[2 * n]? = some a → l[2 * n + 1]? = some b →
    unhexL (l.take (2 * (n + 1))) = (match dg a.toNat, dg b.toNat with | some x, some y => some (r ++ [UInt8.ofNat (16 * x + y)]) | _, _ => none)
  | 0, l, r, h, _, a, b, ha, hb => by
    match l, ha, hb with
    | a' :: b' :: l, ha, hb =>
      simp only [Nat.mul_zero, List.getElem?_cons_zero, Option.some.injEq] at ha
      simp only [Nat.mul_zero, Nat.zero_add, List.getElem?_cons_succ, List.getElem?_cons_zero, Option.some.injEq] at hb
      subst ha; subst hb
      simp only [Nat.mul_zero, List.take_zero, unhexL, Option.some.injEq] at h
      subst h
      show unhexL [a', b'] = _
      cases h1 : dg a'.toNat <;> cases h2 : dg b'.toNat <;> simp [unhexL, h1, h2]
    | [], ha, _ => simp at ha
    | [_], _, hb => simp at hb
  | n + 1, l, r, h, hl, a, b, ha, hb => by
    match l, hl with
    | a' :: b' :: l, hl =>
      have ha' : l[2 * n]? = some a := by simpa [show 2 * (n + 1) = 2 * n + 1 + 1 by omega] using ha
      have hb' : l[2 * n + 1]? = some b := by simpa [show 2 * (n + 1) + 1 = 2 * n + 1 + 1 + 1 by omega] using hb
      have ht : ∀ k, (a' :: b' :: l).take (2 * (k + 1)) = a' :: b' :: l.take (2 * k) := fun k => by rw [show 2 * (k + 1) = 2 * k + 1 + 1 by omega]; rfl
      rw [ht] at h ⊢
      simp only [unhexL] at h
      split at h
      · rename_i x y q h1 h2 h3
        cases h
        have ih := unhexL_take n l q h3 (by simp only [List.length_cons] at hl; omega) a b ha' hb'
        simp only [unhexL, h1, h2, ih]
        cases dg a.toNat <;> cases dg b.toNat <;> simp
      · cases h
    | [], hl => simp at hl
    | [_], hl => simp only [List.length_cons, List.length_nil] at hl; omega
theorem unhexL_bad : ∀ (n : Nat) (l : List UInt8) (a : UInt8), l[n]? = some a → dg a.toNat = none → unhexL l = none := fun n l a h hd => by
  have := unhexL_iff l
  cases hu : unhexL l with
  | none => rfl
  | some r =>
    exfalso
    rw [hu] at this
    simp only [Option.isSome_some, digits] at this
    have h2 := (Bool.and_eq_true _ _ ▸ this.symm).1
    rw [List.all_eq_true] at h2
    have := h2 a (List.mem_of_getElem? h)
    rw [hd] at this; cases this
end HexM

/- Slices of texts. No condition. -/
set_option linter.unusedVariables false
namespace Go.Proofs.YtfoeooddnmppnaaGreatDoor
open Go Vc Go.Proofs

theorem elString : El Tryz.prog T_S_string T_string (.string ⟨#[]⟩) 16 := ⟨by kernel_rfl, by kernel_rfl, rfl⟩
def strV (l : List ByteArray) : List Value := l.map Value.string
theorem own_lit (w : World) (t : TypeId) : Vc.Own (w.alloc (.cells #[] t)) w.heap.size t ⟨some ⟨w.heap.size, 0, none⟩, 0, 0⟩ [] :=
  ⟨rfl, .inr ⟨w.heap.size, _, rfl, Nat.le_refl _, alloc_new w _, Nat.le_refl _, Nat.zero_le _, rfl, rfl⟩⟩
theorem grow_str {w0 w12 : World} {l : Sl} {out : List ByteArray} (x : ByteArray) (hs : out.length ≤ 1000003) (ho : Vc.Own w12 w0.heap.size T_string l (strV out)) (hf : Fr (fun _ => False) w0 w12) {w13 : World} (h13 : w13 = w12.alloc (.cells #[.string x] 9)) :
    ∃ (w14 : World) (l15 : Sl), (Builtin.append_ #[52, 52] 52 #[.slice l.a l.len l.cap, .slice (some ⟨w12.heap.size, 0, none⟩) 1 1]).run Tryz.prog w13 = .ok (.slice l15.a l15.len l15.cap) w14 ∧ Vc.Own w14 w0.heap.size T_string l15 (strV (out ++ [x])) ∧ Fr (fun _ => False) w0 w14 := by
  obtain ⟨w14, l15, hr14, ho14, hf14, _⟩ := append_one' elString ho (v := .string x) rfl (by simp only [strV, List.length_map, maxLen]; omega) (by simp only [strV, List.length_map]; omega) hf.size h13
  refine ⟨w14, l15, hr14, by simpa [strV] using ho14, hf.trans hf14 fun q hq ⟨z, hz, e⟩ => ?_⟩
  have := (ho.blk hz).1; omega
end Go.Proofs.YtfoeooddnmppnaaGreatDoor

/- The parts of a path, in plain. No condition. -/
set_option linter.unusedVariables false
namespace Go.Proofs.YtfoeooddnmppnaaGreatDoor
open Go Vc Go.Proofs

/-- The parts of bytes. -/
def partsL : List UInt8 → List (List UInt8)
  | [] => [[]]
  | b :: r => if b = 47 then [] :: partsL r else match partsL r with
    | h :: t => (b :: h) :: t
    | [] => [[b]]
def bsm (l : List (List UInt8)) : List ByteArray := l.map fun x => ⟨x.toArray⟩
theorem partsL_ne : ∀ l, partsL l ≠ []
  | [] => by simp [partsL]
  | b :: r => by
    rw [partsL]
    split
    · simp
    · split <;> simp
theorem partsL_slash : ∀ l, partsL (l ++ [47]) = partsL l ++ [[]]
  | [] => rfl
  | b :: r => by
    rw [List.cons_append, partsL, partsL, partsL_slash r]
    split
    · rfl
    · obtain ⟨h, t, e⟩ := List.exists_cons_of_ne_nil (partsL_ne r)
      rw [e]; rfl
theorem partsL_snoc {b : UInt8} (hb : b ≠ 47) : ∀ l, ∃ init last, partsL l = init ++ [last] ∧ partsL (l ++ [b]) = init ++ [last ++ [b]]
  | [] => ⟨[], [], rfl, by rw [List.nil_append, partsL, if_neg hb]; rfl⟩
  | c :: r => by
    obtain ⟨init, last, h1, h2⟩ := partsL_snoc hb r
    rw [List.cons_append, partsL, partsL, h1, h2]
    split
    · exact ⟨[] :: init, last, rfl, rfl⟩
    · cases init with
      | nil => exact ⟨[], c :: last, rfl, rfl⟩
      | cons h t => exact ⟨(c :: h) :: t, last, rfl, rfl⟩
theorem partsL_plain : ∀ l : List UInt8, (47 : UInt8) ∉ l → partsL l = [l]
  | [], _ => rfl
  | b :: r, h => by
    rw [partsL, if_neg (fun e => h (by simp [e])), partsL_plain r (fun e => h (by simp [e]))]
theorem partsL_cut : ∀ a b : List UInt8, (47 : UInt8) ∉ a → partsL (a ++ 47 :: b) = a :: partsL b
  | [], b, _ => by rw [List.nil_append, partsL, if_pos rfl]
  | c :: r, b, h => by
    rw [List.cons_append, partsL, if_neg (fun e => h (by simp [e])), partsL_cut r b (fun e => h (by simp [e]))]
theorem partsF_L : ∀ (g : Nat) (s : ByteArray), s.size ≤ g → partsF g s = bsm (partsL s.data.toList)
  | 0, s, h => by
    have : s.data.toList = [] := List.length_eq_zero_iff.1 (by rw [bs_len]; omega)
    rw [this]
    have e : s = ⟨[].toArray⟩ := bs_ext (by rw [this])
    rw [partsF, e]; rfl
  | g + 1, s, h => by
    rcases fnd_cases s 47 with ⟨hi, hno⟩ | ⟨i, hi, hlt, hb, hno⟩
    · rw [partsF_no hi, partsL_plain _ (fun hm => by
        obtain ⟨k, hk, he⟩ := List.getElem_of_mem hm
        obtain ⟨h1, h2⟩ := bs_get? (s := s) (i := k) (c := 47) (by rw [List.getElem?_eq_getElem hk, he])
        exact hno k h1 h2)]
      show [s] = [⟨s.data.toList.toArray⟩]
      rw [bs_self]
    · have hlt' : i < s.data.toList.length := by rw [bs_len]; exact hlt
      have hc : s.data.toList[i] = 47 := by
        have := bs_byt hlt
        rw [hb] at this
        exact (UInt8.toNat_inj.1 this).symm
      have hsp : s.data.toList = s.data.toList.take i ++ 47 :: s.data.toList.drop (i + 1) := by
        rw [← hc, ← List.drop_eq_getElem_cons hlt', List.take_append_drop]
      have hp : partsL s.data.toList = s.data.toList.take i :: partsL (s.data.toList.drop (i + 1)) := by
        conv => lhs; rw [hsp]
        exact partsL_cut _ _ fun hm => by
          obtain ⟨k, hk, he⟩ := List.getElem_of_mem hm
          rw [List.length_take] at hk
          rw [List.getElem_take] at he
          obtain ⟨h1, h2⟩ := bs_get? (s := s) (i := k) (c := 47) (by rw [List.getElem?_eq_getElem (by omega), he])
          exact hno k (by omega) h2
      rw [partsF_yes hi, partsF_L g _ (by simp; omega), hp, bs_tail]
      show s.extract 0 i :: _ = ⟨(s.data.toList.take i).toArray⟩ :: _
      congr 1
      refine bs_ext ?_
      rw [bs_head, bs_mk]
theorem partsL_len : ∀ l : List UInt8, (partsL l).length ≤ l.length + 1
  | [] => Nat.le_refl _
  | b :: r => by
    have := partsL_len r
    rw [partsL]
    split
    · simp; omega
    · split
      · rename_i h t e
        rw [e] at this
        simp at this ⊢; omega
      · simp
theorem partsL_size : ∀ l : List UInt8, ∀ p ∈ partsL l, p.length ≤ l.length
  | [], p, h => by simp [partsL] at h; simp [h]
  | b :: r, p, h => by
    have ih := partsL_size r
    rw [partsL] at h
    split at h
    · rcases List.mem_cons.1 h with h | h
      · simp [h]
      · have := ih p h; simp; omega
    · split at h
      · rename_i q t e
        rw [e] at ih
        rcases List.mem_cons.1 h with h | h
        · have := ih q (by simp); simp [h]; omega
        · have := ih p (by simp [h]); simp; omega
      · simp at h; simp [h]
end Go.Proofs.YtfoeooddnmppnaaGreatDoor

/- Module paths and file paths in plain. Plain. -/
set_option linter.unusedVariables false
namespace Go.Proofs.YtfoeooddnmppnaaGreatDoor
open Go Vc Go.Proofs

def okC (first : Bool) (c : UInt8) : Bool := (decide (97 ≤ c.toNat) && decide (c.toNat ≤ 122)) || (decide (48 ≤ c.toNat) && decide (c.toNat ≤ 57)) || c == 45 || c == 46 || (!first && ((decide (65 ≤ c.toNat) && decide (c.toNat ≤ 90)) || c == 95 || c == 126))
def partPB (first : Bool) (p : ByteArray) : Bool := decide (p.size ≠ 0) && decide (byt p 0 ≠ 46) && decide (byt p (p.size - 1) ≠ 46) && p.data.toList.all (okC first) && (!first || (decide (byt p 0 ≠ 45) && p.data.toList.contains 46))
def pathParts : Bool → List (List UInt8) → Bool
  | _, [] => true
  | first, p :: r => partPB first ⟨p.toArray⟩ && pathParts false r
def pathB (s : ByteArray) : Bool := decide (s.size ≤ 200) && pathParts true (partsL s.data.toList)
def badL : List UInt8 := [34, 39, 42, 60, 62, 63, 96, 124, 92, 58, 59]
def fileB (s : ByteArray) : Bool := cleanB s && !(s.data.toList.any fun c => badL.contains c) && (partsL s.data.toList).all fun p => decide (byt ⟨p.toArray⟩ (p.length - 1) ≠ 46)
theorem pathParts_app : ∀ (first : Bool) (a b : List (List UInt8)), pathParts first (a ++ b) = true → pathParts first a = true
  | _, [], _, _ => rfl
  | first, p :: r, b, h => by
    rw [List.cons_append, pathParts, Bool.and_eq_true] at h
    rw [pathParts, Bool.and_eq_true]
    exact ⟨h.1, pathParts_app false r b h.2⟩
theorem pathParts_mem : ∀ (first : Bool) (a : List (List UInt8)), pathParts first a = true → ∀ p ∈ a, ∃ f, partPB f ⟨p.toArray⟩ = true
  | _, [], _, p, hp => by simp at hp
  | first, q :: r, h, p, hp => by
    rw [pathParts, Bool.and_eq_true] at h
    rcases List.mem_cons.1 hp with rfl | hp
    · exact ⟨first, h.1⟩
    · exact pathParts_mem false r h.2 p hp
theorem partsL_app' : ∀ a b : List UInt8, partsL (a ++ 47 :: b) = partsL a ++ partsL b
  | [], b => by
    show partsL (47 :: b) = [] :: partsL b
    rw [partsL, if_pos rfl]
  | c :: a, b => by
    rw [List.cons_append, partsL, partsL, partsL_app' a b]
    split
    · rfl
    · obtain ⟨h, t, e⟩ := List.exists_cons_of_ne_nil (partsL_ne a)
      rw [e]; rfl
theorem partsL_mem : ∀ (l : List UInt8) (c : UInt8), c ∈ l → c = 47 ∨ ∃ p ∈ partsL l, c ∈ p
  | [], c, h => by simp at h
  | b :: r, c, h => by
    rw [partsL]
    by_cases hb : b = 47
    · rw [if_pos hb]
      rcases List.mem_cons.1 h with rfl | h
      · exact .inl hb
      · rcases partsL_mem r c h with h | ⟨p, hp, hc⟩
        · exact .inl h
        · exact .inr ⟨p, List.mem_cons_of_mem _ hp, hc⟩
    · rw [if_neg hb]
      obtain ⟨q, t, e⟩ := List.exists_cons_of_ne_nil (partsL_ne r)
      rcases List.mem_cons.1 h with rfl | h
      · rw [e]; exact .inr ⟨c :: q, by simp, by simp⟩
      · rcases partsL_mem r c h with h | ⟨p, hp, hc⟩
        · exact .inl h
        · rw [e] at hp ⊢
          rcases List.mem_cons.1 hp with rfl | hp
          · exact .inr ⟨b :: p, by simp, by simp [hc]⟩
          · exact .inr ⟨p, by simp [hp], hc⟩
theorem path_front {s : ByteArray} (h : pathB s = true) {i : Nat} (hi : i < s.size) (hb : byt s i = 47) : pathB (s.extract 0 i) = true := by
  unfold pathB at h ⊢
  rw [Bool.and_eq_true] at h ⊢
  have hl : i < s.data.toList.length := by rw [bs_len]; exact hi
  have hc : s.data.toList[i] = 47 := by
    have := bs_byt hi
    rw [hb] at this
    exact UInt8.toNat_inj.1 (by rw [← this]; rfl)
  have hsp : s.data.toList = s.data.toList.take i ++ 47 :: s.data.toList.drop (i + 1) := by
    rw [← hc, ← List.drop_eq_getElem_cons hl, List.take_append_drop]
  have h1 := of_decide_eq_true h.1
  refine ⟨decide_eq_true (by simp; omega), ?_⟩
  rw [bs_head]
  have := h.2
  rw [hsp, partsL_app'] at this
  exact pathParts_app true _ _ this
theorem okC_facts {f : Bool} {c : UInt8} (h : okC f c = true) : 32 ≤ c.toNat ∧ c.toNat ≤ 126 ∧ badL.contains c = false ∧ c ≠ 47 := by
  have key : ∀ n : Nat, n < 256 → okC f (UInt8.ofNat n) = true → 32 ≤ n ∧ n ≤ 126 ∧ badL.contains (UInt8.ofNat n) = false ∧ UInt8.ofNat n ≠ 47 := by
    cases f <;> decide +kernel
  have := key c.toNat c.toNat_lt (by rw [UInt8.ofNat_toNat]; exact h)
  rw [UInt8.ofNat_toNat] at this
  exact this
theorem partPB_facts {f : Bool} {p : ByteArray} (h : partPB f p = true) : p.size ≠ 0 ∧ byt p 0 ≠ 46 ∧ byt p (p.size - 1) ≠ 46 ∧ ∀ c ∈ p.data.toList, okC f c = true := by
  unfold partPB at h
  simp only [Bool.and_eq_true] at h
  exact ⟨of_decide_eq_true h.1.1.1.1, of_decide_eq_true h.1.1.1.2, of_decide_eq_true h.1.1.2, List.all_eq_true.1 h.1.2⟩
theorem path_file {s : ByteArray} (h : pathB s = true) : fileB s = true := by
  unfold pathB at h
  rw [Bool.and_eq_true] at h
  have h1 := of_decide_eq_true h.1
  have hm := pathParts_mem true _ h.2
  have hch : ∀ c ∈ s.data.toList, 32 ≤ c.toNat ∧ c.toNat ≤ 126 ∧ badL.contains c = false := fun c hc => by
    rcases partsL_mem _ c hc with rfl | ⟨p, hp, hcp⟩
    · decide
    · obtain ⟨f, hf⟩ := hm p hp
      have := okC_facts ((partPB_facts hf).2.2.2 c (by rw [bs_mk]; exact hcp))
      exact ⟨this.1, this.2.1, this.2.2.1⟩
  unfold fileB cleanB
  simp only [Bool.and_eq_true]
  refine ⟨⟨⟨⟨decide_eq_true h1, ?_⟩, decide_eq_true fun k hk => ?_⟩, ?_⟩, ?_⟩
  · rw [partsF_L _ _ (Nat.le_refl _), List.all_eq_true]
    intro x hx
    obtain ⟨p, hp, rfl⟩ := List.mem_map.1 hx
    obtain ⟨f, hf⟩ := hm p hp
    obtain ⟨h2, h3, _⟩ := partPB_facts hf
    unfold partOK
    simp only [Bool.and_eq_true]
    refine ⟨⟨decide_eq_true fun e => ?_, decide_eq_true fun e => ?_⟩, decide_eq_true fun e => ?_⟩
    · rw [e] at h2; exact h2 rfl
    · rw [e] at h3; exact h3 rfl
    · rw [e] at h3; exact h3 rfl
  · have := bs_get hk
    have := hch _ (List.mem_of_getElem? this)
    rw [toNat_of _ (byt_lt s k)] at this
    exact ⟨this.1, this.2.1⟩
  · rw [Bool.not_eq_true', List.any_eq_false]
    intro c hc
    rw [(hch c hc).2.2]; decide
  · rw [List.all_eq_true]
    intro p hp
    obtain ⟨f, hf⟩ := hm p hp
    have := (partPB_facts hf).2.2.1
    rw [bs_mksize] at this
    exact decide_eq_true this
theorem file_ends {s : ByteArray} (h : fileB s = true) : 0 < s.size ∧ byt s 0 ≠ 47 ∧ byt s (s.size - 1) ≠ 47 := by
  unfold fileB cleanB at h
  simp only [Bool.and_eq_true] at h
  have h2 := h.1.1.1.2
  rw [partsF_L _ _ (Nat.le_refl _), List.all_eq_true] at h2
  have no : ([] : List UInt8) ∉ partsL s.data.toList := fun hm => by
    have := h2 ⟨#[]⟩ (List.mem_map.2 ⟨[], hm, rfl⟩)
    revert this; decide
  have h0 : 0 < s.size := by
    rcases Nat.eq_zero_or_pos s.size with h | h
    · exfalso
      have : s.data.toList = [] := List.length_eq_zero_iff.1 (by rw [bs_len]; exact h)
      rw [this] at no
      exact no (by simp [partsL])
    · exact h
  have hne : s.data.toList ≠ [] := fun e => by
    have := congrArg List.length e
    rw [bs_len] at this
    have : s.size = 0 := this
    omega
  refine ⟨h0, fun e => ?_, fun e => ?_⟩
  · obtain ⟨c, r, hcr⟩ := List.exists_cons_of_ne_nil hne
    have hc : c = 47 := by
      unfold byt at e
      rw [hcr] at e
      exact UInt8.toNat_inj.1 e
    rw [hcr, hc, partsL, if_pos rfl] at no
    exact no (by simp)
  · rcases List.eq_nil_or_concat s.data.toList with h | ⟨r, c, hcr⟩
    · exact hne h
    rw [List.concat_eq_append] at hcr
    have hl : s.size = r.length + 1 := by rw [← bs_len, hcr, List.length_append]; rfl
    have hc : c = 47 := by
      unfold byt at e
      rw [hcr, List.getElem?_append_right (by omega), show s.size - 1 - r.length = 0 by omega] at e
      exact UInt8.toNat_inj.1 e
    rw [hcr, hc, partsL_slash] at no
    exact no (by simp)
end Go.Proofs.YtfoeooddnmppnaaGreatDoor

/- Which of a commit's files are a module's, and what is wrong with a module's files, in plain. No condition. -/
set_option linter.unusedVariables false
namespace Go.Proofs.YtfoeooddnmppnaaGreatDoor
open Go Vc Go.Proofs

structure ItE where
  path : ByteArray
  mode : Int
  data : ByteArray
instance : Inhabited ItE := ⟨⟨⟨#[]⟩, 0, ⟨#[]⟩⟩⟩
def sVen : ByteArray := ⟨#[118, 101, 110, 100, 111, 114, 47]⟩
def sVen2 : ByteArray := ⟨#[47, 118, 101, 110, 100, 111, 114, 47]⟩
def sMod : ByteArray := ⟨#[103, 111, 46, 109, 111, 100]⟩
def sMod2 : ByteArray := ⟨#[47, 103, 111, 46, 109, 111, 100]⟩
def sLic : ByteArray := ⟨#[76, 73, 67, 69, 78, 83, 69]⟩
def plainI (x : ItE) : Bool := decide (x.mode = 33188) || decide (x.mode = 33261)
def vend (p : ByteArray) : Bool := begB p sVen || hasL sVen2.data.toList p.data.toList
def okI (front : ByteArray) (x : ItE) : Bool := begB x.path front && plainI x
def isNest (front : ByteArray) (x : ItE) : Bool := okI front x && sufL sMod2.data.toList (cutPre x.path front).data.toList
def nestE (front : ByteArray) (x : ItE) : List ByteArray := if isNest front x = true then [cutSuf (cutPre x.path front) sMod] else []
def inB (ns : List ByteArray) (p : ByteArray) : Bool := ns.any (begB p)
def isTake (ns : List ByteArray) (front : ByteArray) (x : ItE) : Bool := okI front x && !inB ns (cutPre x.path front) && !vend (cutPre x.path front)
def takeE (ns : List ByteArray) (front : ByteArray) (x : ItE) : List FileE := if isTake ns front x = true then [⟨cutPre x.path front, x.data⟩] else []
def isLic (x : ItE) : Bool := decide (x.path = sLic) && plainI x
def frontOf (dir : ByteArray) : ByteArray := if dir.size = 0 then ⟨#[]⟩ else dir ++ ⟨#[47]⟩
def hasLic (ys : List FileE) : Bool := ys.any fun f => decide (f.path = sLic)
def licE (xs : List ItE) : List FileE := match xs.find? isLic with
  | some x => [⟨sLic, x.data⟩]
  | none => []
def bodyE (xs : List ItE) (front : ByteArray) : List FileE := xs.flatMap (takeE (xs.flatMap (nestE front)) front)
/-- What is selected, as it comes. -/
def selE (xs : List ItE) (dir : ByteArray) : List FileE := bodyE xs (frontOf dir) ++ if decide (dir.size ≠ 0) && !hasLic (bodyE xs (frontOf dir)) then licE xs else []
def foldC (c : UInt8) : UInt8 := if 65 ≤ c ∧ c ≤ 90 then c + 32 else c
def foldE (s : ByteArray) : ByteArray := ⟨(s.data.toList.map foldC).toArray⟩
/-- What is wrong with a module's files. -/
def chkE (ys : List FileE) : Int := if ys.all (fun f => fileB f.path) = false then 4 else if ¬ (ys.map fun f => foldE f.path).Nodup then 8 else if totalF ys > 500000 ∨ ys.length > 600 then 2 else 0
theorem chk_ok {ys : List FileE} (h : chkE ys = 0) : (∀ f ∈ ys, fileB f.path = true) ∧ (ys.map fun f => f.path).Nodup ∧ totalF ys ≤ 500000 ∧ ys.length ≤ 600 := by
  unfold chkE at h
  split at h
  · cases h
  · next h1 =>
    split at h
    · cases h
    · next h2 =>
      split at h
      · cases h
      · next h3 =>
        refine ⟨fun f hf => ?_, ?_, by omega, by omega⟩
        · have h1 : ys.all (fun f => fileB f.path) = true := by simpa using h1
          exact List.all_eq_true.1 h1 f hf
        · have h2 := Decidable.not_not.1 h2
          rw [show (ys.map fun f => foldE f.path) = (ys.map fun f => f.path).map foldE by rw [List.map_map]; rfl] at h2
          exact List.Pairwise.of_map foldE (fun a b hne he => hne (by rw [he])) h2
theorem chk_perm {ys zs : List FileE} (h : ys.Perm zs) : chkE ys = chkE zs := by
  unfold chkE
  have h1 : ys.all (fun f => fileB f.path) = zs.all (fun f => fileB f.path) := by
    rw [Bool.eq_iff_iff, List.all_eq_true, List.all_eq_true]
    exact ⟨fun a x hx => a x (h.symm.subset hx), fun a x hx => a x (h.subset hx)⟩
  have h2 : (ys.map fun f => foldE f.path).Nodup ↔ (zs.map fun f => foldE f.path).Nodup := (h.map _).nodup_iff
  have h3 : totalF ys = totalF zs := (h.map _).sum_nat
  rw [h1, h3, h.length_eq]
  simp only [h2]
theorem take_mem {xs : List ItE} {front : ByteArray} {f : FileE} (h : f ∈ bodyE xs front) : ∃ x ∈ xs, isTake (xs.flatMap (nestE front)) front x = true ∧ f = ⟨cutPre x.path front, x.data⟩ := by
  obtain ⟨x, hx, hf⟩ := List.mem_flatMap.1 h
  refine ⟨x, hx, ?_⟩
  unfold takeE at hf
  split at hf
  · next h1 => exact ⟨h1, by simpa using hf⟩
  · simp at hf
theorem lic_mem {xs : List ItE} {f : FileE} (h : f ∈ licE xs) : ∃ x ∈ xs, isLic x = true ∧ f = ⟨sLic, x.data⟩ := by
  unfold licE at h
  split at h
  · next x hx => exact ⟨x, List.mem_of_find?_eq_some hx, List.find?_some hx, by simpa using h⟩
  · simp at h
theorem sel_mem {xs : List ItE} {dir : ByteArray} {f : FileE} (h : f ∈ selE xs dir) : f ∈ bodyE xs (frontOf dir) ∨ f ∈ licE xs := by
  unfold selE at h
  rcases List.mem_append.1 h with h | h
  · exact .inl h
  · split at h
    · exact .inr h
    · simp at h
theorem body_len (ns : List ByteArray) (front : ByteArray) : ∀ xs : List ItE, (xs.flatMap (takeE ns front)).length ≤ xs.length
  | [] => Nat.le_refl _
  | x :: r => by
    have ih := body_len ns front r
    have : (takeE ns front x).length ≤ 1 := by unfold takeE; split <;> simp
    rw [List.flatMap_cons, List.length_append, List.length_cons]; omega
theorem sel_len (xs : List ItE) (dir : ByteArray) : (selE xs dir).length ≤ xs.length + 1 := by
  have h1 := body_len (xs.flatMap (nestE (frontOf dir))) (frontOf dir) xs
  have h2 : (licE xs).length ≤ 1 := by unfold licE; split <;> simp
  unfold selE
  rw [List.length_append]
  unfold bodyE
  split
  · omega
  · simp only [List.length_nil]; omega
end Go.Proofs.YtfoeooddnmppnaaGreatDoor
namespace Go.Proofs.YtfoeooddnmppnaaGreatDoor
open Go Vc Go.Proofs
theorem beg_cutPre {s t : ByteArray} (h : begB s t = true) : s = t ++ cutPre s t := by
  refine bs_ext ?_
  unfold cutPre
  rw [if_pos h, bs_app, bs_tail]
  obtain ⟨r, hr⟩ := (of_decide_eq_true h : t.data.toList <+: s.data.toList)
  rw [← hr, ← bs_len, List.drop_left]
theorem nodup_inj {xs : List ItE} (h : (xs.map (·.path)).Nodup) {x y : ItE} (hx : x ∈ xs) (hy : y ∈ xs) (he : x.path = y.path) : x = y := by
  induction xs with
  | nil => simp at hx
  | cons z r ih =>
    rw [List.map_cons, List.nodup_cons] at h
    rcases List.mem_cons.1 hx with rfl | hx'
    · rcases List.mem_cons.1 hy with rfl | hy'
      · rfl
      · exact absurd (List.mem_map.2 ⟨y, hy', he.symm⟩) h.1
    · rcases List.mem_cons.1 hy with rfl | hy'
      · exact absurd (List.mem_map.2 ⟨x, hx', he⟩) h.1
      · exact ih h.2 hx' hy'
theorem body_nodup (ns : List ByteArray) (front : ByteArray) : ∀ xs : List ItE, (xs.map (·.path)).Nodup → ((xs.flatMap (takeE ns front)).map (·.path)).Nodup
  | [], _ => by simp
  | x :: r, h => by
    rw [List.map_cons, List.nodup_cons] at h
    have ih := body_nodup ns front r h.2
    rw [List.flatMap_cons]
    unfold takeE
    split
    · next h1 =>
      rw [List.map_append, List.map_cons, List.map_nil, List.singleton_append, List.nodup_cons]
      refine ⟨fun hm => ?_, ih⟩
      obtain ⟨f, hf, he⟩ := List.mem_map.1 hm
      obtain ⟨y, hy, hf⟩ := List.mem_flatMap.1 hf
      split at hf
      · next h2 =>
        simp only [List.mem_cons, List.mem_nil_iff, or_false] at hf
        subst hf
        have b1 : begB x.path front = true := by unfold isTake okI at h1; simp only [Bool.and_eq_true] at h1; exact h1.1.1.1
        have b2 : begB y.path front = true := by unfold isTake okI at h2; simp only [Bool.and_eq_true] at h2; exact h2.1.1.1
        refine h.1 (List.mem_map.2 ⟨y, hy, ?_⟩)
        rw [beg_cutPre b1, beg_cutPre b2]
        exact congrArg (front ++ ·) he
      · simp at hf
    · rw [List.nil_append]; exact ih
theorem any_perm {α : Type} {p : α → Bool} {xs zs : List α} (h : xs.Perm zs) : xs.any p = zs.any p := by
  rw [Bool.eq_iff_iff, List.any_eq_true, List.any_eq_true]
  exact ⟨fun ⟨x, hx, a⟩ => ⟨x, h.subset hx, a⟩, fun ⟨x, hx, a⟩ => ⟨x, h.symm.subset hx, a⟩⟩
theorem body_perm {xs zs : List ItE} (h : xs.Perm zs) (front : ByteArray) : (bodyE xs front).Perm (bodyE zs front) := by
  unfold bodyE
  have hn : (xs.flatMap (nestE front)).Perm (zs.flatMap (nestE front)) := h.flatMap_right _
  have hf : takeE (xs.flatMap (nestE front)) front = takeE (zs.flatMap (nestE front)) front := by
    funext x
    unfold takeE isTake inB
    rw [any_perm hn]
  rw [hf]
  exact h.flatMap_right _
theorem lic_perm {xs zs : List ItE} (h : xs.Perm zs) (hn : (xs.map (·.path)).Nodup) : licE xs = licE zs := by
  unfold licE
  have key : xs.find? isLic = zs.find? isLic := by
    cases h1 : xs.find? isLic with
    | none =>
      cases h2 : zs.find? isLic with
      | none => rfl
      | some y =>
        have := List.find?_eq_none.1 h1 y (h.symm.subset (List.mem_of_find?_eq_some h2))
        exact absurd (List.find?_some h2) this
    | some x =>
      cases h2 : zs.find? isLic with
      | none =>
        have := List.find?_eq_none.1 h2 x (h.subset (List.mem_of_find?_eq_some h1))
        exact absurd (List.find?_some h1) this
      | some y =>
        have hx := List.mem_of_find?_eq_some h1
        have hy := h.symm.subset (List.mem_of_find?_eq_some h2)
        have e1 := List.find?_some h1
        have e2 := List.find?_some h2
        unfold isLic at e1 e2
        simp only [Bool.and_eq_true, decide_eq_true_eq] at e1 e2
        rw [nodup_inj hn hx hy (by rw [e1.1, e2.1])]
  rw [key]
theorem sel_perm {xs zs : List ItE} (h : xs.Perm zs) (hn : (xs.map (·.path)).Nodup) (dir : ByteArray) : (selE xs dir).Perm (selE zs dir) := by
  unfold selE
  have hb := body_perm h (frontOf dir)
  have hl : hasLic (bodyE xs (frontOf dir)) = hasLic (bodyE zs (frontOf dir)) := any_perm hb
  rw [hl, lic_perm h hn]
  exact hb.append_right _
theorem sel_nodup {xs : List ItE} (hn : (xs.map (·.path)).Nodup) (dir : ByteArray) : ((selE xs dir).map (·.path)).Nodup := by
  unfold selE
  have hb := body_nodup (xs.flatMap (nestE (frontOf dir))) (frontOf dir) xs hn
  split
  · next h1 =>
    simp only [Bool.and_eq_true, Bool.not_eq_true'] at h1
    rw [List.map_append, List.nodup_append]
    refine ⟨hb, ?_, fun a ha b hb2 he => ?_⟩
    · unfold licE; split <;> simp
    · obtain ⟨f, hf, rfl⟩ := List.mem_map.1 ha
      obtain ⟨g, hg, rfl⟩ := List.mem_map.1 hb2
      obtain ⟨_, _, _, rfl⟩ := lic_mem hg
      have := List.any_eq_false.1 h1.2 f hf
      exact this (by rw [he]; simp)
  · rw [List.append_nil]; exact hb
/-- Sorted rows of unlike paths are one where they are a permutation of one another. -/
theorem sorted_one : ∀ {ys zs : List FileE}, ys.Perm zs → (ys.map (·.path)).Nodup → (ys.Pairwise fun x y => ¬ y.path.data.toList < x.path.data.toList) → (zs.Pairwise fun x y => ¬ y.path.data.toList < x.path.data.toList) → ys = zs
  | [], zs, h, _, _, _ => (List.nil_perm.1 h).symm
  | y :: r, [], h, _, _, _ => by simpa using h.length_eq
  | y :: r, z :: s, h, hn, hy, hz => by
    obtain ⟨y1, y2⟩ := List.pairwise_cons.1 hy
    obtain ⟨z1, z2⟩ := List.pairwise_cons.1 hz
    have e : y = z := by
      rcases List.mem_cons.1 (h.subset (List.mem_cons_self)) with e | hm
      · exact e
      · rcases List.mem_cons.1 (h.symm.subset (List.mem_cons_self)) with e | hm2
        · exact e.symm
        · have a := z1 y hm
          have b := y1 z hm2
          have : y.path = z.path := bs_ext (List.le_antisymm (List.not_lt.1 b) (List.not_lt.1 a))
          rw [List.map_cons, List.nodup_cons] at hn
          exact absurd (List.mem_map.2 ⟨z, hm2, this.symm⟩) hn.1
    subst e
    rw [List.map_cons, List.nodup_cons] at hn
    rw [sorted_one ((List.perm_cons y).1 h) hn.2 y2 z2]
end Go.Proofs.YtfoeooddnmppnaaGreatDoor

/- Formulas of 5 Go functions of this seat (written by a program of the author's, vcgen.py), and that each is enough for the call. No condition. -/
set_option linter.unusedVariables false
namespace Go.Proofs.YtfoeooddnmppnaaGreatDoor
open Go Vc Go.Proofs
set_option maxRecDepth 100000
/-- (modzip.Item).plain -/
def vc_modzip_Item_plain (x0_0 : ByteArray) (x0_1 : Int) (x0_2 : ByteArray) (w : World) (R : Value → World → Prop) : Prop :=
  ∀ w1 : World,
  (w1 = World.alloc w (Obj.cells (Array.mk [Value.string x0_0, Value.int IntKind.i64 x0_1, Value.string x0_2]) 54) →
    ∃ n2 : Int, (World.cell? w1 (Addr.mk (Array.size (World.heap w)) 1 none) = some (Value.int IntKind.i64 n2) ∧
     ((((n2 == 33188) = true →
        R (Value.bool true) w1)) ∧
      ((n2 == 33188) = false →
        ∃ n3 : Int, (World.cell? w1 (Addr.mk (Array.size (World.heap w)) 1 none) = some (Value.int IntKind.i64 n3) ∧
         R (Value.bool (n3 == 33261)) w1)))))
theorem vc_modzip_Item_plain_ok {x0_0 : ByteArray} {x0_1 : Int} {x0_2 : ByteArray} {w : World} {R : Value → World → Prop} {R' : Ending → World → Prop} (h : vc_modzip_Item_plain x0_0 x0_1 x0_2 w R) (hR : ∀ v w', R v w' → R' (.returned v) w') :
    Calls Tryz.prog 23 #[.agg #[.string x0_0, .int .i64 x0_1, .string x0_2]] w R' :=
  calls_of_body (vs := [(.agg #[.string x0_0, .int .i64 x0_1, .string x0_2], false)]) (ty := ty) (ann := ⟨[], [], [], []⟩) (c := Tryz.f23.body.getD .skip) (by kernel_rfl) Tryz.func23 (by kernel_rfl) (by kernel_rfl) (Eq.mp (by kernel_rfl) h) hR
/-- modzip.fold -/
def vc_modzip_fold (x0 : ByteArray) (w : World) (R : Value → World → Prop) : Prop :=
  ∃ w1 : World, ∃ l2 : Sl, (Sem.run Tryz.prog (convert 9 86 (Value.string x0)) w = Result.ok (Value.slice l2.1 l2.2 l2.3) w1 ∧
   ∃ I3 : Int → World → Prop, ∃ I4 : Int → World → Nat, (I3 0 w1 ∧
    ∀ n5 : Int,
    ∀ w6 : World,
    (I3 n5 w6 →
      (((decide (n5 < (↑l2.2 : Int)) = true →
         ((0 ≤ n5 ∧
           n5 < (↑l2.2 : Int)) ∧
          ∃ a7 : Addr, (l2.1 = some a7 ∧
           ∃ n8 : Int, (World.cell? w6 (Addr.add a7 (Int.toNat n5 * 1)) = some (Value.int IntKind.u8 n8) ∧
            (((decide (n8 ≥ 65) = true →
               (((decide (n8 ≤ 90) = true →
                  ((0 ≤ n5 ∧
                    n5 < (↑l2.2 : Int)) ∧
                   ∃ a9 : Addr, (l2.1 = some a9 ∧
                    (Wr w6 (Addr.add a9 (Int.toNat n5 * 1)) ∧
                     ∀ w10 : World,
                     (w10 = World.setCell w6 (Addr.add a9 (Int.toNat n5 * 1)) (Value.int IntKind.u8 (IntKind.wrap IntKind.u8 (n8 + 32))) →
                       (I3 (IntKind.wrap IntKind.i64 (n5 + 1)) w10 ∧
                        I4 (IntKind.wrap IntKind.i64 (n5 + 1)) w10 < I4 n5 w6))))))) ∧
                (decide (n8 ≤ 90) = false →
                  (I3 (IntKind.wrap IntKind.i64 (n5 + 1)) w6 ∧
                   I4 (IntKind.wrap IntKind.i64 (n5 + 1)) w6 < I4 n5 w6))))) ∧
             (decide (n8 ≥ 65) = false →
               (I3 (IntKind.wrap IntKind.i64 (n5 + 1)) w6 ∧
                I4 (IntKind.wrap IntKind.i64 (n5 + 1)) w6 < I4 n5 w6)))))))) ∧
       (decide (n5 < (↑l2.2 : Int)) = false →
         ∃ w11 : World, ∃ s12 : ByteArray, (Sem.run Tryz.prog (convert 86 9 (Value.slice l2.1 l2.2 l2.3)) w6 = Result.ok (Value.string s12) w11 ∧
          R (Value.string s12) w11))))))
theorem vc_modzip_fold_ok {x0 : ByteArray} {w : World} {R : Value → World → Prop} {R' : Ending → World → Prop} (h : vc_modzip_fold x0 w R) (hR : ∀ v w', R v w' → R' (.returned v) w') :
    Calls Tryz.prog 65 #[.string x0] w R' :=
  calls_of_body (vs := [(.string x0, false)]) (ty := ty) (ann := ⟨[], [(3, [(10, .int .i64)])], [], []⟩) (c := Tryz.f65.body.getD .skip) (by kernel_rfl) Tryz.func65 (by kernel_rfl) (by kernel_rfl) (Eq.mp (by kernel_rfl) h) hR
/-- modzip.vendored -/
def vc_modzip_vendored (x0 : ByteArray) (w : World) (R : Value → World → Prop) : Prop :=
  Calls Tryz.prog (29 : Nat) (Array.mk [Value.string x0, Value.string (ByteArray.mk (Array.mk [118, 101, 110, 100, 111, 114, 47]))]) (w) (fun e1 w2 =>
    ∃ b3 : Bool, (e1 = Ending.returned (Value.bool b3) ∧
     (((b3 = true →
        R (Value.bool true) w2)) ∧
      (b3 = false →
        Calls Tryz.prog (62 : Nat) (Array.mk [Value.string x0, Value.string (ByteArray.mk (Array.mk [47, 118, 101, 110, 100, 111, 114, 47]))]) (w2) (fun e4 w5 =>
          ∃ b6 : Bool, (e4 = Ending.returned (Value.bool b6) ∧
           R (Value.bool b6) w5))))))
theorem vc_modzip_vendored_ok {x0 : ByteArray} {w : World} {R : Value → World → Prop} {R' : Ending → World → Prop} (h : vc_modzip_vendored x0 w R) (hR : ∀ v w', R v w' → R' (.returned v) w') :
    Calls Tryz.prog 30 #[.string x0] w R' :=
  calls_of_body (vs := [(.string x0, false)]) (ty := ty) (ann := ⟨[], [], [], []⟩) (c := Tryz.f30.body.getD .skip) (by kernel_rfl) Tryz.func30 (by kernel_rfl) (by kernel_rfl) (Eq.mp (by kernel_rfl) h) hR
/-- modzip.Front -/
def vc_modzip_Front (x0 : ByteArray) (x1 : ByteArray) (w : World) (R : Value → World → Prop) : Prop :=
  (ByteArray.size x0 + ByteArray.size (ByteArray.mk (Array.mk [64])) ≤ 9223372036854775807 ∧
   (ByteArray.size (x0 ++ ByteArray.mk (Array.mk [64])) + ByteArray.size x1 ≤ 9223372036854775807 ∧
    (ByteArray.size (x0 ++ ByteArray.mk (Array.mk [64]) ++ x1) + ByteArray.size (ByteArray.mk (Array.mk [47])) ≤ 9223372036854775807 ∧
     R (Value.string (x0 ++ ByteArray.mk (Array.mk [64]) ++ x1 ++ ByteArray.mk (Array.mk [47]))) w)))
theorem vc_modzip_Front_ok {x0 : ByteArray} {x1 : ByteArray} {w : World} {R : Value → World → Prop} {R' : Ending → World → Prop} (h : vc_modzip_Front x0 x1 w R) (hR : ∀ v w', R v w' → R' (.returned v) w') :
    Calls Tryz.prog 11 #[.string x0, .string x1] w R' :=
  calls_of_body (vs := [(.string x0, false), (.string x1, false)]) (ty := ty) (ann := ⟨[], [], [], []⟩) (c := Tryz.f11.body.getD .skip) (by kernel_rfl) Tryz.func11 (by kernel_rfl) (by kernel_rfl) (Eq.mp (by kernel_rfl) h) hR
/-- modzip.prefixed -/
def vc_modzip_prefixed (x0a : Option Addr) (x0n : Nat) (x0c : Nat) (x1 : ByteArray) (w : World) (R : Value → World → Prop) : Prop :=
  Calls Tryz.prog (47 : Nat) (Array.mk [Value.slice x0a x0n x0c]) (w) (fun e1 w2 =>
    ∃ l3 : Sl, (e1 = Ending.returned (Value.slice l3.1 l3.2 l3.3) ∧
     ∃ I4 : Int → World → Prop, ∃ I5 : Int → World → Nat, (I4 0 w2 ∧
      ∀ n6 : Int,
      ∀ w7 : World,
      (I4 n6 w7 →
        (((decide (n6 < (↑l3.2 : Int)) = true →
           ((0 ≤ n6 ∧
             n6 < (↑l3.2 : Int)) ∧
            ∃ a8 : Addr, (l3.1 = some a8 ∧
             ∃ s9 : ByteArray, (World.cell? w7 (Addr.add a8 (Int.toNat n6 * 2)) = some (Value.string s9) ∧
              (ByteArray.size x1 + ByteArray.size s9 ≤ 9223372036854775807 ∧
               ((0 ≤ n6 ∧
                 n6 < (↑l3.2 : Int)) ∧
                ∃ a10 : Addr, (l3.1 = some a10 ∧
                 (Wr w7 (Addr.add a10 (Int.toNat n6 * 2)) ∧
                  ∀ w11 : World,
                  (w11 = World.setCell w7 (Addr.add a10 (Int.toNat n6 * 2)) (Value.string (x1 ++ s9)) →
                    (I4 (IntKind.wrap IntKind.i64 (n6 + 1)) w11 ∧
                     I5 (IntKind.wrap IntKind.i64 (n6 + 1)) w11 < I5 n6 w7))))))))))) ∧
         (decide (n6 < (↑l3.2 : Int)) = false →
           R (Value.slice l3.1 l3.2 l3.3) w7))))))
theorem vc_modzip_prefixed_ok {x0a : Option Addr} {x0n : Nat} {x0c : Nat} {x1 : ByteArray} {w : World} {R : Value → World → Prop} {R' : Ending → World → Prop} (h : vc_modzip_prefixed x0a x0n x0c x1 w R) (hR : ∀ v w', R v w' → R' (.returned v) w') :
    Calls Tryz.prog 12 #[.slice x0a x0n x0c, .string x1] w R' :=
  calls_of_body (vs := [(.slice x0a x0n x0c, false), (.string x1, false)]) (ty := ty) (ann := ⟨[], [(3, [(11, .int .i64)])], [], []⟩) (c := Tryz.f12.body.getD .skip) (by kernel_rfl) Tryz.func12 (by kernel_rfl) (by kernel_rfl) (Eq.mp (by kernel_rfl) h) hR
end Go.Proofs.YtfoeooddnmppnaaGreatDoor

/- Formulas of 4 Go functions of this seat (written by a program of the author's, vcgen.py), and that each is enough for the call. No condition. -/
set_option linter.unusedVariables false
namespace Go.Proofs.YtfoeooddnmppnaaGreatDoor
open Go Vc Go.Proofs
set_option maxRecDepth 100000
/-- modzip.check -/
def vc_modzip_check (x0a : Option Addr) (x0n : Nat) (x0c : Nat) (w : World) (R : Value → World → Prop) : Prop :=
  ∀ w1 : World,
  (w1 = World.alloc w (Obj.map (Array.mk []) 0) →
    ∃ I2 : Int → Int → World → Prop, ∃ I3 : Int → Int → World → Nat, (I2 0 0 w1 ∧
     ∀ n4 : Int,
     ∀ n5 : Int,
     ∀ w6 : World,
     (I2 n4 n5 w6 →
       (((decide (n5 < (↑x0n : Int)) = true →
          ((0 ≤ n5 ∧
            n5 < (↑x0n : Int)) ∧
           ∃ a7 : Addr, (x0a = some a7 ∧
            ∃ s8 : ByteArray, ∃ s9 : ByteArray, (Sem.run Tryz.prog (loadVar 35 (Addr.add a7 (Int.toNat n5 * 2))) w6 = Result.ok (Value.agg (Array.mk [Value.string s8, Value.string s9])) w6 ∧
             ∀ w10 : World,
             (w10 = World.alloc w6 (Obj.cells (Array.mk [Value.string (ByteArray.mk (Array.mk [])), Value.string (ByteArray.mk (Array.mk []))]) 35) →
               ∃ w11 : World, (Sem.run Tryz.prog (storeVar 35 (Addr.mk (Array.size (World.heap w6)) 0 none) (Value.agg (Array.mk [Value.string s8, Value.string s9]))) w10 = Result.ok PUnit.unit w11 ∧
                ∃ s12 : ByteArray, (World.cell? w11 (Addr.mk (Array.size (World.heap w6)) 0 none) = some (Value.string s12) ∧
                 Calls Tryz.prog (64 : Nat) (Array.mk [Value.string s12]) (w11) (fun e13 w14 =>
                   ∃ b15 : Bool, (e13 = Ending.returned (Value.bool b15) ∧
                    ((((!b15) = true →
                       R (Value.int IntKind.i64 4) w14)) ∧
                     ((!b15) = false →
                       ∃ s16 : ByteArray, (World.cell? w14 (Addr.mk (Array.size (World.heap w6)) 1 none) = some (Value.string s16) ∧
                        (I2 (IntKind.wrap IntKind.i64 (n4 + (↑(ByteArray.size s16) : Int))) (IntKind.wrap IntKind.i64 (n5 + 1)) w14 ∧
                         I3 (IntKind.wrap IntKind.i64 (n4 + (↑(ByteArray.size s16) : Int))) (IntKind.wrap IntKind.i64 (n5 + 1)) w14 < I3 n4 n5 w6)))))))))))))) ∧
        (decide (n5 < (↑x0n : Int)) = false →
          ∃ I17 : Int → World → Prop, ∃ I18 : Int → World → Nat, (I17 0 w6 ∧
           ∀ n19 : Int,
           ∀ w20 : World,
           (I17 n19 w20 →
             (((decide (n19 < (↑x0n : Int)) = true →
                ((0 ≤ n19 ∧
                  n19 < (↑x0n : Int)) ∧
                 ∃ a21 : Addr, (x0a = some a21 ∧
                  ∃ s22 : ByteArray, ∃ s23 : ByteArray, (Sem.run Tryz.prog (loadVar 35 (Addr.add a21 (Int.toNat n19 * 2))) w20 = Result.ok (Value.agg (Array.mk [Value.string s22, Value.string s23])) w20 ∧
                   ∀ w24 : World,
                   (w24 = World.alloc w20 (Obj.cells (Array.mk [Value.string (ByteArray.mk (Array.mk [])), Value.string (ByteArray.mk (Array.mk []))]) 35) →
                     ∃ w25 : World, (Sem.run Tryz.prog (storeVar 35 (Addr.mk (Array.size (World.heap w20)) 0 none) (Value.agg (Array.mk [Value.string s22, Value.string s23]))) w24 = Result.ok PUnit.unit w25 ∧
                      ∃ s26 : ByteArray, (World.cell? w25 (Addr.mk (Array.size (World.heap w20)) 0 none) = some (Value.string s26) ∧
                       Calls Tryz.prog (65 : Nat) (Array.mk [Value.string s26]) (w25) (fun e27 w28 =>
                         ∃ s29 : ByteArray, (e27 = Ending.returned (Value.string s29) ∧
                          ∃ w30 : World, ∃ b31 : Bool, (Sem.run Tryz.prog (Instr.lookup 97 (Value.map (some (Array.size (World.heap w)))) (Value.string s29) false) w28 = Result.ok (Value.bool b31) w30 ∧
                           (((b31 = true →
                              R (Value.int IntKind.i64 8) w30)) ∧
                            (b31 = false →
                              ∃ s32 : ByteArray, (World.cell? w30 (Addr.mk (Array.size (World.heap w20)) 0 none) = some (Value.string s32) ∧
                               Calls Tryz.prog (65 : Nat) (Array.mk [Value.string s32]) (w30) (fun e33 w34 =>
                                 ∃ s35 : ByteArray, (e33 = Ending.returned (Value.string s35) ∧
                                  ∃ w36 : World, (Sem.run Tryz.prog (Instr.mapUpdate 97 (Value.map (some (Array.size (World.heap w)))) (Value.string s35) (Value.bool true)) w34 = Result.ok PUnit.unit w36 ∧
                                   (I17 (IntKind.wrap IntKind.i64 (n19 + 1)) w36 ∧
                                    I18 (IntKind.wrap IntKind.i64 (n19 + 1)) w36 < I18 n19 w20)))))))))))))))))) ∧
              (decide (n19 < (↑x0n : Int)) = false →
                (((decide (n4 > 500000) = true →
                   R (Value.int IntKind.i64 2) w20)) ∧
                 (decide (n4 > 500000) = false →
                   (((decide ((↑x0n : Int) > 600) = true →
                      R (Value.int IntKind.i64 2) w20)) ∧
                    (decide ((↑x0n : Int) > 600) = false →
                      R (Value.int IntKind.i64 0) w20)))))))))))))
theorem vc_modzip_check_ok {x0a : Option Addr} {x0n : Nat} {x0c : Nat} {w : World} {R : Value → World → Prop} {R' : Ending → World → Prop} (h : vc_modzip_check x0a x0n x0c w R) (hR : ∀ v w', R v w' → R' (.returned v) w') :
    Calls Tryz.prog 34 #[.slice x0a x0n x0c] w R' :=
  calls_of_body (vs := [(.slice x0a x0n x0c, false)]) (ty := ty) (ann := ⟨[], [(4, [(3, .int .i64), (12, .int .i64)]), (11, [(28, .int .i64)])], [], []⟩) (c := Tryz.f34.body.getD .skip) (by kernel_rfl) Tryz.func34 (by kernel_rfl) (by kernel_rfl) (Eq.mp (by kernel_rfl) h) hR
/-- modzip.Select -/
def vc_modzip_Select (x0a : Option Addr) (x0n : Nat) (x0c : Nat) (x1 : ByteArray) (w : World) (R : Value → World → Prop) : Prop :=
  ∃ I1 : World → Prop, (((((!ByteArray.toList x1 == ByteArray.toList (ByteArray.mk (Array.mk []))) = true →
      Calls Tryz.prog (21 : Nat) (Array.mk [Value.string x1]) (w) (fun e2 w3 =>
        ∃ b4 : Bool, (e2 = Ending.returned (Value.bool b4) ∧
         ((((!b4) = true →
            R (Value.tuple (Array.mk [Value.slice none 0 0, Value.int IntKind.i64 4])) w3)) ∧
          ((!b4) = false →
            I1 w3)))))) ∧
    ((!ByteArray.toList x1 == ByteArray.toList (ByteArray.mk (Array.mk []))) = false →
      I1 w)) ∧
   ∀ w5 : World,
   (I1 w5 →
     ∃ I6 : ByteArray → World → Prop, (((((!ByteArray.toList x1 == ByteArray.toList (ByteArray.mk (Array.mk []))) = true →
         (ByteArray.size x1 + ByteArray.size (ByteArray.mk (Array.mk [47])) ≤ 9223372036854775807 ∧
          I6 (x1 ++ ByteArray.mk (Array.mk [47])) w5))) ∧
       ((!ByteArray.toList x1 == ByteArray.toList (ByteArray.mk (Array.mk []))) = false →
         I6 (ByteArray.mk (Array.mk [])) w5)) ∧
      ∀ s7 : ByteArray,
      ∀ w8 : World,
      (I6 s7 w8 →
        ∀ w9 : World,
        (w9 = World.alloc w8 (Obj.cells (Array.mk [Value.slice none 0 0]) 52) →
          ∃ I10 : Int → World → Prop, ∃ I11 : Int → World → Nat, (I10 0 w9 ∧
           ∀ n12 : Int,
           ∀ w13 : World,
           (I10 n12 w13 →
             (((decide (n12 < (↑x0n : Int)) = true →
                ((0 ≤ n12 ∧
                  n12 < (↑x0n : Int)) ∧
                 ∃ a14 : Addr, (x0a = some a14 ∧
                  ∃ s15 : ByteArray, ∃ n16 : Int, ∃ s17 : ByteArray, (Sem.run Tryz.prog (loadVar 54 (Addr.add a14 (Int.toNat n12 * 3))) w13 = Result.ok (Value.agg (Array.mk [Value.string s15, Value.int IntKind.i64 n16, Value.string s17])) w13 ∧
                   ∀ w18 : World,
                   (w18 = World.alloc w13 (Obj.cells (Array.mk [Value.string (ByteArray.mk (Array.mk [])), Value.int IntKind.i64 0, Value.string (ByteArray.mk (Array.mk []))]) 54) →
                     ∃ w19 : World, (Sem.run Tryz.prog (storeVar 54 (Addr.mk (Array.size (World.heap w13)) 0 none) (Value.agg (Array.mk [Value.string s15, Value.int IntKind.i64 n16, Value.string s17]))) w18 = Result.ok PUnit.unit w19 ∧
                      ∃ s20 : ByteArray, (World.cell? w19 (Addr.mk (Array.size (World.heap w13)) 0 none) = some (Value.string s20) ∧
                       Calls Tryz.prog (22 : Nat) (Array.mk [Value.string s20, Value.string s7]) (w19) (fun e21 w22 =>
                         ∃ s23 : ByteArray, ∃ b24 : Bool, (e21 = Ending.returned (Value.tuple (Array.mk [Value.string s23, Value.bool b24])) ∧
                          (((b24 = true →
                             ∃ s25 : ByteArray, ∃ n26 : Int, ∃ s27 : ByteArray, (Sem.run Tryz.prog (loadVar 54 (Addr.mk (Array.size (World.heap w13)) 0 none)) w22 = Result.ok (Value.agg (Array.mk [Value.string s25, Value.int IntKind.i64 n26, Value.string s27])) w22 ∧
                              Calls Tryz.prog (23 : Nat) (Array.mk [Value.agg (Array.mk [Value.string s25, Value.int IntKind.i64 n26, Value.string s27])]) (w22) (fun e28 w29 =>
                                ∃ b30 : Bool, (e28 = Ending.returned (Value.bool b30) ∧
                                 (((b30 = true →
                                    Calls Tryz.prog (24 : Nat) (Array.mk [Value.string s23, Value.string (ByteArray.mk (Array.mk [47, 103, 111, 46, 109, 111, 100]))]) (w29) (fun e31 w32 =>
                                      ∃ b33 : Bool, (e31 = Ending.returned (Value.bool b33) ∧
                                       (((b33 = true →
                                          ∀ w34 : World,
                                          (Drew w32 w34 →
                                            ∃ I35 : World → Prop, (I35 w34 ∧
                                             ∃ l36 : Sl, ((∀ w37 : World,
                                              (I35 w37 →
                                                World.cell? w37 (Addr.mk (Array.size (World.heap w8)) 0 none) = some (Value.slice l36.1 l36.2 l36.3))) ∧
                                              Calls Tryz.prog (25 : Nat) (Array.mk [Value.string s23, Value.string (ByteArray.mk (Array.mk [103, 111, 46, 109, 111, 100]))]) (w34) (fun e38 w39 =>
                                                ∃ s40 : ByteArray, (e38 = Ending.returned (Value.string s40) ∧
                                                 (I35 w39 ∧
                                                  ∀ w41 : World,
                                                  (w41 = World.alloc w39 (Obj.cells (Array.mk [Value.string s40]) 9) →
                                                    (I35 w41 ∧
                                                     ∃ w42 : World, ∃ l43 : Sl, (Sem.run Tryz.prog (Builtin.append_ (Array.mk [52, 52]) 52 (Array.mk [Value.slice l36.1 l36.2 l36.3, Value.slice (some (Addr.mk (Array.size (World.heap w39)) 0 none)) 1 1])) w41 = Result.ok (Value.slice l43.1 l43.2 l43.3) w42 ∧
                                                      (I35 w42 ∧
                                                       (Wr w42 (Addr.mk (Array.size (World.heap w8)) 0 none) ∧
                                                        ∀ w44 : World,
                                                        (w44 = World.setCell w42 (Addr.mk (Array.size (World.heap w8)) 0 none) (Value.slice l43.1 l43.2 l43.3) →
                                                          (I10 (IntKind.wrap IntKind.i64 (n12 + 1)) w44 ∧
                                                           I11 (IntKind.wrap IntKind.i64 (n12 + 1)) w44 < I11 n12 w13))))))))))))))) ∧
                                        (b33 = false →
                                          (I10 (IntKind.wrap IntKind.i64 (n12 + 1)) w32 ∧
                                           I11 (IntKind.wrap IntKind.i64 (n12 + 1)) w32 < I11 n12 w13))))))) ∧
                                  (b30 = false →
                                    (I10 (IntKind.wrap IntKind.i64 (n12 + 1)) w29 ∧
                                     I11 (IntKind.wrap IntKind.i64 (n12 + 1)) w29 < I11 n12 w13)))))))) ∧
                           (b24 = false →
                             (I10 (IntKind.wrap IntKind.i64 (n12 + 1)) w22 ∧
                              I11 (IntKind.wrap IntKind.i64 (n12 + 1)) w22 < I11 n12 w13))))))))))))) ∧
              (decide (n12 < (↑x0n : Int)) = false →
                ∃ I45 : Sl → Int → Int → World → Prop, ∃ I46 : Sl → Int → Int → World → Nat, (I45 (Sl.mk none 0 0) (-1) 0 w13 ∧
                 ∀ l47 : Sl,
                 ∀ n48 : Int,
                 ∀ n49 : Int,
                 ∀ w50 : World,
                 (I45 l47 n48 n49 w50 →
                   (((decide (n49 < (↑x0n : Int)) = true →
                      ((0 ≤ n49 ∧
                        n49 < (↑x0n : Int)) ∧
                       ∃ a51 : Addr, (x0a = some a51 ∧
                        ∃ s52 : ByteArray, ∃ n53 : Int, ∃ s54 : ByteArray, (Sem.run Tryz.prog (loadVar 54 (Addr.add a51 (Int.toNat n49 * 3))) w50 = Result.ok (Value.agg (Array.mk [Value.string s52, Value.int IntKind.i64 n53, Value.string s54])) w50 ∧
                         ∀ w55 : World,
                         (w55 = World.alloc w50 (Obj.cells (Array.mk [Value.string (ByteArray.mk (Array.mk [])), Value.int IntKind.i64 0, Value.string (ByteArray.mk (Array.mk []))]) 54) →
                           ∃ w56 : World, (Sem.run Tryz.prog (storeVar 54 (Addr.mk (Array.size (World.heap w50)) 0 none) (Value.agg (Array.mk [Value.string s52, Value.int IntKind.i64 n53, Value.string s54]))) w55 = Result.ok PUnit.unit w56 ∧
                            ∃ I57 : Int → World → Prop, ((∃ s58 : ByteArray, (World.cell? w56 (Addr.mk (Array.size (World.heap w50)) 0 none) = some (Value.string s58) ∧
                              ((((ByteArray.toList s58 == ByteArray.toList (ByteArray.mk (Array.mk [76, 73, 67, 69, 78, 83, 69]))) = true →
                                 ∃ s59 : ByteArray, ∃ n60 : Int, ∃ s61 : ByteArray, (Sem.run Tryz.prog (loadVar 54 (Addr.mk (Array.size (World.heap w50)) 0 none)) w56 = Result.ok (Value.agg (Array.mk [Value.string s59, Value.int IntKind.i64 n60, Value.string s61])) w56 ∧
                                  Calls Tryz.prog (23 : Nat) (Array.mk [Value.agg (Array.mk [Value.string s59, Value.int IntKind.i64 n60, Value.string s61])]) (w56) (fun e62 w63 =>
                                    ∃ b64 : Bool, (e62 = Ending.returned (Value.bool b64) ∧
                                     (((b64 = true →
                                        (((decide (n48 < 0) = true →
                                           I57 n49 w63)) ∧
                                         (decide (n48 < 0) = false →
                                           I57 n48 w63)))) ∧
                                      (b64 = false →
                                        I57 n48 w63))))))) ∧
                               ((ByteArray.toList s58 == ByteArray.toList (ByteArray.mk (Array.mk [76, 73, 67, 69, 78, 83, 69]))) = false →
                                 I57 n48 w56)))) ∧
                             ∀ n65 : Int,
                             ∀ w66 : World,
                             (I57 n65 w66 →
                               ∃ s67 : ByteArray, (World.cell? w66 (Addr.mk (Array.size (World.heap w50)) 0 none) = some (Value.string s67) ∧
                                Calls Tryz.prog (22 : Nat) (Array.mk [Value.string s67, Value.string s7]) (w66) (fun e68 w69 =>
                                  ∃ s70 : ByteArray, ∃ b71 : Bool, (e68 = Ending.returned (Value.tuple (Array.mk [Value.string s70, Value.bool b71])) ∧
                                   (((b71 = true →
                                      ∃ s72 : ByteArray, ∃ n73 : Int, ∃ s74 : ByteArray, (Sem.run Tryz.prog (loadVar 54 (Addr.mk (Array.size (World.heap w50)) 0 none)) w69 = Result.ok (Value.agg (Array.mk [Value.string s72, Value.int IntKind.i64 n73, Value.string s74])) w69 ∧
                                       Calls Tryz.prog (23 : Nat) (Array.mk [Value.agg (Array.mk [Value.string s72, Value.int IntKind.i64 n73, Value.string s74])]) (w69) (fun e75 w76 =>
                                         ∃ b77 : Bool, (e75 = Ending.returned (Value.bool b77) ∧
                                          (((b77 = true →
                                             Calls Tryz.prog (26 : Nat) (Array.mk [Value.string s70, Value.pointer (some (Addr.mk (Array.size (World.heap w8)) 0 none))]) (w76) (fun e78 w79 =>
                                               ∃ b80 : Bool, (e78 = Ending.returned (Value.bool b80) ∧
                                                ((((!b80) = true →
                                                   Calls Tryz.prog (30 : Nat) (Array.mk [Value.string s70]) (w79) (fun e81 w82 =>
                                                     ∃ b83 : Bool, (e81 = Ending.returned (Value.bool b83) ∧
                                                      ((((!b83) = true →
                                                         ∃ s84 : ByteArray, (World.cell? w82 (Addr.mk (Array.size (World.heap w50)) 2 none) = some (Value.string s84) ∧
                                                          ∀ w85 : World,
                                                          (w85 = World.alloc w82 (Obj.cells (Array.mk [Value.string s70, Value.string s84]) 35) →
                                                            ∃ w86 : World, ∃ l87 : Sl, (Sem.run Tryz.prog (Builtin.append_ (Array.mk [24, 24]) 24 (Array.mk [Value.slice l47.1 l47.2 l47.3, Value.slice (some (Addr.mk (Array.size (World.heap w82)) 0 none)) 1 1])) w85 = Result.ok (Value.slice l87.1 l87.2 l87.3) w86 ∧
                                                             (I45 (Sl.mk l87.1 l87.2 l87.3) n65 (IntKind.wrap IntKind.i64 (n49 + 1)) w86 ∧
                                                              I46 (Sl.mk l87.1 l87.2 l87.3) n65 (IntKind.wrap IntKind.i64 (n49 + 1)) w86 < I46 l47 n48 n49 w50)))))) ∧
                                                       ((!b83) = false →
                                                         (I45 (Sl.mk l47.1 l47.2 l47.3) n65 (IntKind.wrap IntKind.i64 (n49 + 1)) w82 ∧
                                                          I46 (Sl.mk l47.1 l47.2 l47.3) n65 (IntKind.wrap IntKind.i64 (n49 + 1)) w82 < I46 l47 n48 n49 w50))))))) ∧
                                                 ((!b80) = false →
                                                   (I45 (Sl.mk l47.1 l47.2 l47.3) n65 (IntKind.wrap IntKind.i64 (n49 + 1)) w79 ∧
                                                    I46 (Sl.mk l47.1 l47.2 l47.3) n65 (IntKind.wrap IntKind.i64 (n49 + 1)) w79 < I46 l47 n48 n49 w50))))))) ∧
                                           (b77 = false →
                                             (I45 (Sl.mk l47.1 l47.2 l47.3) n65 (IntKind.wrap IntKind.i64 (n49 + 1)) w76 ∧
                                              I46 (Sl.mk l47.1 l47.2 l47.3) n65 (IntKind.wrap IntKind.i64 (n49 + 1)) w76 < I46 l47 n48 n49 w50)))))))) ∧
                                    (b71 = false →
                                      (I45 (Sl.mk l47.1 l47.2 l47.3) n65 (IntKind.wrap IntKind.i64 (n49 + 1)) w69 ∧
                                       I46 (Sl.mk l47.1 l47.2 l47.3) n65 (IntKind.wrap IntKind.i64 (n49 + 1)) w69 < I46 l47 n48 n49 w50))))))))))))))) ∧
                    (decide (n49 < (↑x0n : Int)) = false →
                      ((((!ByteArray.toList x1 == ByteArray.toList (ByteArray.mk (Array.mk []))) = true →
                         (((decide (n48 ≥ 0) = true →
                            Calls Tryz.prog (31 : Nat) (Array.mk [Value.slice l47.1 l47.2 l47.3, Value.func (Fn.func 32) (Array.mk []) (Array.mk [])]) (w50) (fun e88 w89 =>
                              ∃ b90 : Bool, (e88 = Ending.returned (Value.bool b90) ∧
                               ((((!b90) = true →
                                  ((0 ≤ n48 ∧
                                    n48 < (↑x0n : Int)) ∧
                                   ∃ a91 : Addr, (x0a = some a91 ∧
                                    ∃ s92 : ByteArray, (World.cell? w89 (Addr.add (Addr.add a91 (Int.toNat n48 * 3)) 2) = some (Value.string s92) ∧
                                     ∀ w93 : World,
                                     (w93 = World.alloc w89 (Obj.cells (Array.mk [Value.string (ByteArray.mk (Array.mk [76, 73, 67, 69, 78, 83, 69])), Value.string s92]) 35) →
                                       ∃ w94 : World, ∃ l95 : Sl, (Sem.run Tryz.prog (Builtin.append_ (Array.mk [24, 24]) 24 (Array.mk [Value.slice l47.1 l47.2 l47.3, Value.slice (some (Addr.mk (Array.size (World.heap w89)) 0 none)) 1 1])) w93 = Result.ok (Value.slice l95.1 l95.2 l95.3) w94 ∧
                                        Calls Tryz.prog (13 : Nat) (Array.mk [Value.slice l95.1 l95.2 l95.3, Value.func (Fn.func 33) (Array.mk []) (Array.mk [])]) (w94) (fun e96 w97 =>
                                          (e96 = Ending.returned (Value.tuple (Array.mk [])) ∧
                                           Calls Tryz.prog (34 : Nat) (Array.mk [Value.slice l95.1 l95.2 l95.3]) (w97) (fun e98 w99 =>
                                             ∃ n100 : Int, (e98 = Ending.returned (Value.int IntKind.i64 n100) ∧
                                              ((((n100 != 0) = true →
                                                 R (Value.tuple (Array.mk [Value.slice none 0 0, Value.int IntKind.i64 n100])) w99)) ∧
                                               ((n100 != 0) = false →
                                                 R (Value.tuple (Array.mk [Value.slice l95.1 l95.2 l95.3, Value.int IntKind.i64 0])) w99))))))))))))) ∧
                                ((!b90) = false →
                                  Calls Tryz.prog (13 : Nat) (Array.mk [Value.slice l47.1 l47.2 l47.3, Value.func (Fn.func 33) (Array.mk []) (Array.mk [])]) (w89) (fun e101 w102 =>
                                    (e101 = Ending.returned (Value.tuple (Array.mk [])) ∧
                                     Calls Tryz.prog (34 : Nat) (Array.mk [Value.slice l47.1 l47.2 l47.3]) (w102) (fun e103 w104 =>
                                       ∃ n105 : Int, (e103 = Ending.returned (Value.int IntKind.i64 n105) ∧
                                        ((((n105 != 0) = true →
                                           R (Value.tuple (Array.mk [Value.slice none 0 0, Value.int IntKind.i64 n105])) w104)) ∧
                                         ((n105 != 0) = false →
                                           R (Value.tuple (Array.mk [Value.slice l47.1 l47.2 l47.3, Value.int IntKind.i64 0])) w104)))))))))))) ∧
                          (decide (n48 ≥ 0) = false →
                            Calls Tryz.prog (13 : Nat) (Array.mk [Value.slice l47.1 l47.2 l47.3, Value.func (Fn.func 33) (Array.mk []) (Array.mk [])]) (w50) (fun e106 w107 =>
                              (e106 = Ending.returned (Value.tuple (Array.mk [])) ∧
                               Calls Tryz.prog (34 : Nat) (Array.mk [Value.slice l47.1 l47.2 l47.3]) (w107) (fun e108 w109 =>
                                 ∃ n110 : Int, (e108 = Ending.returned (Value.int IntKind.i64 n110) ∧
                                  ((((n110 != 0) = true →
                                     R (Value.tuple (Array.mk [Value.slice none 0 0, Value.int IntKind.i64 n110])) w109)) ∧
                                   ((n110 != 0) = false →
                                     R (Value.tuple (Array.mk [Value.slice l47.1 l47.2 l47.3, Value.int IntKind.i64 0])) w109)))))))))) ∧
                       ((!ByteArray.toList x1 == ByteArray.toList (ByteArray.mk (Array.mk []))) = false →
                         Calls Tryz.prog (13 : Nat) (Array.mk [Value.slice l47.1 l47.2 l47.3, Value.func (Fn.func 33) (Array.mk []) (Array.mk [])]) (w50) (fun e111 w112 =>
                           (e111 = Ending.returned (Value.tuple (Array.mk [])) ∧
                            Calls Tryz.prog (34 : Nat) (Array.mk [Value.slice l47.1 l47.2 l47.3]) (w112) (fun e113 w114 =>
                              ∃ n115 : Int, (e113 = Ending.returned (Value.int IntKind.i64 n115) ∧
                               ((((n115 != 0) = true →
                                  R (Value.tuple (Array.mk [Value.slice none 0 0, Value.int IntKind.i64 n115])) w114)) ∧
                                ((n115 != 0) = false →
                                  R (Value.tuple (Array.mk [Value.slice l47.1 l47.2 l47.3, Value.int IntKind.i64 0])) w114)))))))))))))))))))))
theorem vc_modzip_Select_ok {x0a : Option Addr} {x0n : Nat} {x0c : Nat} {x1 : ByteArray} {w : World} {R : Value → World → Prop} {R' : Ending → World → Prop} (h : vc_modzip_Select x0a x0n x0c x1 w R) (hR : ∀ v w', R v w' → R' (.returned v) w') :
    Calls Tryz.prog 5 #[.slice x0a x0n x0c, .string x1] w R' :=
  calls_of_body (vs := [(.slice x0a x0n x0c, false), (.string x1, false)]) (ty := ty) (ann := ⟨[(3, []), (6, [(6, .str)]), (22, [(14, .int .i64)])], [(9, [(33, .int .i64)]), (18, [(8, .slice), (14, .int .i64), (62, .int .i64)])], [(13, .held [(0, true), (1, true), (2, false), (3, false), (4, false), (5, false)])], []⟩) (c := Tryz.f5.body.getD .skip) (by kernel_rfl) Tryz.func5 (by kernel_rfl) (by kernel_rfl) (Eq.mp (by kernel_rfl) h) hR
/-- modzip.Hash -/
def vc_modzip_Hash (x0 : ByteArray) (x1 : ByteArray) (x2a : Option Addr) (x2n : Nat) (x2c : Nat) (w : World) (R : Value → World → Prop) : Prop :=
  Calls Tryz.prog (11 : Nat) (Array.mk [Value.string x0, Value.string x1]) (w) (fun e1 w2 =>
    ∃ s3 : ByteArray, (e1 = Ending.returned (Value.string s3) ∧
     Calls Tryz.prog (12 : Nat) (Array.mk [Value.slice x2a x2n x2c, Value.string s3]) (w2) (fun e4 w5 =>
       ∃ l6 : Sl, (e4 = Ending.returned (Value.slice l6.1 l6.2 l6.3) ∧
        Calls Tryz.prog (13 : Nat) (Array.mk [Value.slice l6.1 l6.2 l6.3, Value.func (Fn.func 14) (Array.mk []) (Array.mk [])]) (w5) (fun e7 w8 =>
          (e7 = Ending.returned (Value.tuple (Array.mk [])) ∧
           ∀ w9 : World,
           (w9 = World.alloc w8 (Obj.cells (Array.mk [Value.slice none 0 0, Value.string (ByteArray.mk (Array.mk [])), Value.int IntKind.u64 0]) 47) →
             ∃ I10 : Int → World → Prop, ∃ I11 : Int → World → Nat, (I10 0 w9 ∧
              ∀ n12 : Int,
              ∀ w13 : World,
              (I10 n12 w13 →
                (((decide (n12 < (↑l6.2 : Int)) = true →
                   ((0 ≤ n12 ∧
                     n12 < (↑l6.2 : Int)) ∧
                    ∃ a14 : Addr, (l6.1 = some a14 ∧
                     ∃ s15 : ByteArray, ∃ s16 : ByteArray, (Sem.run Tryz.prog (loadVar 35 (Addr.add a14 (Int.toNat n12 * 2))) w13 = Result.ok (Value.agg (Array.mk [Value.string s15, Value.string s16])) w13 ∧
                      ∀ w17 : World,
                      (w17 = World.alloc w13 (Obj.cells (Array.mk [Value.string (ByteArray.mk (Array.mk [])), Value.string (ByteArray.mk (Array.mk []))]) 35) →
                        ∃ w18 : World, (Sem.run Tryz.prog (storeVar 35 (Addr.mk (Array.size (World.heap w13)) 0 none) (Value.agg (Array.mk [Value.string s15, Value.string s16]))) w17 = Result.ok PUnit.unit w18 ∧
                         ∀ w19 : World,
                         (Drew w18 w19 →
                           ∃ I20 : World → Prop, (I20 w19 ∧
                            ∃ s21 : ByteArray, ((∀ w22 : World,
                             (I20 w22 →
                               World.cell? w22 (Addr.mk (Array.size (World.heap w13)) 1 none) = some (Value.string s21))) ∧
                             ∃ s23 : ByteArray, ((∀ w24 : World,
                              (I20 w24 →
                                World.cell? w24 (Addr.mk (Array.size (World.heap w13)) 0 none) = some (Value.string s23))) ∧
                              Calls Tryz.prog (18 : Nat) (Array.mk [Value.string s21]) (w19) (fun e25 w26 =>
                                ∃ s27 : ByteArray, (e25 = Ending.returned (Value.string s27) ∧
                                 (I20 w26 ∧
                                  Calls Tryz.prog (17 : Nat) (Array.mk [Value.string s27]) (w26) (fun e28 w29 =>
                                    ∃ s30 : ByteArray, (e28 = Ending.returned (Value.string s30) ∧
                                     (I20 w29 ∧
                                      (ByteArray.size s30 + ByteArray.size (ByteArray.mk (Array.mk [32, 32])) ≤ 9223372036854775807 ∧
                                       (ByteArray.size (s30 ++ ByteArray.mk (Array.mk [32, 32])) + ByteArray.size s23 ≤ 9223372036854775807 ∧
                                        (ByteArray.size (s30 ++ ByteArray.mk (Array.mk [32, 32]) ++ s23) + ByteArray.size (ByteArray.mk (Array.mk [10])) ≤ 9223372036854775807 ∧
                                         Calls Tryz.prog (16 : Nat) (Array.mk [Value.pointer (some (Addr.mk (Array.size (World.heap w8)) 0 none)), Value.string (s30 ++ ByteArray.mk (Array.mk [32, 32]) ++ s23 ++ ByteArray.mk (Array.mk [10]))]) (w29) (fun e31 w32 =>
                                           (e31 = Ending.returned (Value.tuple (Array.mk [])) ∧
                                            (I10 (IntKind.wrap IntKind.i64 (n12 + 1)) w32 ∧
                                             I11 (IntKind.wrap IntKind.i64 (n12 + 1)) w32 < I11 n12 w13))))))))))))))))))))))) ∧
                 (decide (n12 < (↑l6.2 : Int)) = false →
                   Calls Tryz.prog (20 : Nat) (Array.mk [Value.pointer (some (Addr.mk (Array.size (World.heap w8)) 0 none))]) (w13) (fun e33 w34 =>
                     ∃ s35 : ByteArray, (e33 = Ending.returned (Value.string s35) ∧
                      Calls Tryz.prog (19 : Nat) (Array.mk [Value.string s35]) (w34) (fun e36 w37 =>
                        ∃ s38 : ByteArray, (e36 = Ending.returned (Value.string s38) ∧
                         (ByteArray.size (ByteArray.mk (Array.mk [104, 49, 58])) + ByteArray.size s38 ≤ 9223372036854775807 ∧
                          R (Value.string (ByteArray.mk (Array.mk [104, 49, 58]) ++ s38)) w37))))))))))))))))
theorem vc_modzip_Hash_ok {x0 : ByteArray} {x1 : ByteArray} {x2a : Option Addr} {x2n : Nat} {x2c : Nat} {w : World} {R : Value → World → Prop} {R' : Ending → World → Prop} (h : vc_modzip_Hash x0 x1 x2a x2n x2c w R) (hR : ∀ v w', R v w' → R' (.returned v) w') :
    Calls Tryz.prog 4 #[.string x0, .string x1, .slice x2a x2n x2c] w R' :=
  calls_of_body (vs := [(.string x0, false), (.string x1, false), (.slice x2a x2n x2c, false)]) (ty := ty) (ann := ⟨[], [(5, [(20, .int .i64)])], [(7, .held [(0, true), (1, true), (5, true), (6, true), (2, false), (3, false), (4, true), (7, true), (8, true), (9, false)])], []⟩) (c := Tryz.f4.body.getD .skip) (by kernel_rfl) Tryz.func4 (by kernel_rfl) (by kernel_rfl) (Eq.mp (by kernel_rfl) h) hR
/-- modzip.Pack -/
def vc_modzip_Pack (x0 : ByteArray) (x1 : ByteArray) (x2a : Option Addr) (x2n : Nat) (x2c : Nat) (w : World) (R : Value → World → Prop) : Prop :=
  Calls Tryz.prog (34 : Nat) (Array.mk [Value.slice x2a x2n x2c]) (w) (fun e1 w2 =>
    ∃ n3 : Int, (e1 = Ending.returned (Value.int IntKind.i64 n3) ∧
     ((((n3 != 0) = true →
        R (Value.tuple (Array.mk [Value.string (ByteArray.mk (Array.mk [])), Value.int IntKind.i64 n3])) w2)) ∧
      ((n3 != 0) = false →
        Calls Tryz.prog (11 : Nat) (Array.mk [Value.string x0, Value.string x1]) (w2) (fun e4 w5 =>
          ∃ s6 : ByteArray, (e4 = Ending.returned (Value.string s6) ∧
           Calls Tryz.prog (12 : Nat) (Array.mk [Value.slice x2a x2n x2c, Value.string s6]) (w5) (fun e7 w8 =>
             ∃ l9 : Sl, (e7 = Ending.returned (Value.slice l9.1 l9.2 l9.3) ∧
              Calls Tryz.prog (36 : Nat) (Array.mk [Value.slice l9.1 l9.2 l9.3]) (w8) (fun e10 w11 =>
                ∃ s12 : ByteArray, ∃ n13 : Int, (e10 = Ending.returned (Value.tuple (Array.mk [Value.string s12, Value.int IntKind.i64 n13])) ∧
                 R (Value.tuple (Array.mk [Value.string s12, Value.int IntKind.i64 n13])) w11))))))))))
theorem vc_modzip_Pack_ok {x0 : ByteArray} {x1 : ByteArray} {x2a : Option Addr} {x2n : Nat} {x2c : Nat} {w : World} {R : Value → World → Prop} {R' : Ending → World → Prop} (h : vc_modzip_Pack x0 x1 x2a x2n x2c w R) (hR : ∀ v w', R v w' → R' (.returned v) w') :
    Calls Tryz.prog 7 #[.string x0, .string x1, .slice x2a x2n x2c] w R' :=
  calls_of_body (vs := [(.string x0, false), (.string x1, false), (.slice x2a x2n x2c, false)]) (ty := ty) (ann := ⟨[], [], [], []⟩) (c := Tryz.f7.body.getD .skip) (by kernel_rfl) Tryz.func7 (by kernel_rfl) (by kernel_rfl) (Eq.mp (by kernel_rfl) h) hR
end Go.Proofs.YtfoeooddnmppnaaGreatDoor

/- Formulas of 1 Go functions of this seat (written by a program of the author's, vcgen.py), and that each is enough for the call. No condition. -/
set_option linter.unusedVariables false
namespace Go.Proofs.YtfoeooddnmppnaaGreatDoor
open Go Vc Go.Proofs
set_option maxRecDepth 100000
/-- slices.Clone[[]api.File,api.File] -/
def vc_slices_Clone (x0a : Option Addr) (x0n : Nat) (x0c : Nat) (w : World) (R : Value → World → Prop) : Prop :=
  (((Option.isNone x0a = true →
     R (Value.slice none 0 0) w)) ∧
   (Option.isNone x0a = false →
     ∀ w1 : World,
     (w1 = World.alloc w (Obj.cells (Array.mk []) 35) →
       ∃ w2 : World, ∃ l3 : Sl, (Sem.run Tryz.prog (Builtin.append_ (Array.mk [24, 24]) 24 (Array.mk [Value.slice (some (Addr.mk (Array.size (World.heap w)) 0 none)) 0 0, Value.slice x0a x0n x0c])) w1 = Result.ok (Value.slice l3.1 l3.2 l3.3) w2 ∧
        R (Value.slice l3.1 l3.2 l3.3) w2))))
theorem vc_slices_Clone_ok {x0a : Option Addr} {x0n : Nat} {x0c : Nat} {w : World} {R : Value → World → Prop} {R' : Ending → World → Prop} (h : vc_slices_Clone x0a x0n x0c w R) (hR : ∀ v w', R v w' → R' (.returned v) w') :
    Calls Tryz.prog 47 #[.slice x0a x0n x0c] w R' :=
  calls_of_body (vs := [(.slice x0a x0n x0c, false)]) (ty := ty) (ann := ⟨[], [], [], []⟩) (c := Tryz.f47.body.getD .skip) (by kernel_rfl) Tryz.func47 (by kernel_rfl) (by kernel_rfl) (Eq.mp (by kernel_rfl) h) hR
end Go.Proofs.YtfoeooddnmppnaaGreatDoor

/- IndexByte of the package strings. No condition. -/
set_option linter.unusedVariables false
namespace Go.Proofs.YtfoeooddnmppnaaGreatDoor
open Go Vc Go.Proofs

theorem indexByte_spec (s : ByteArray) (c : Nat) (hc : c < 256) (w : World) : Calls Tryz.prog F_strings_IndexByte #[.string s, .int .u8 (c : Int)] w fun e w' => e = .returned (.int .i64 (Lib.indexByte s.data.toList (UInt8.ofNat c))) ∧ w' = w := by
  refine vc_strings_IndexByte_ok (R := fun v w' => v = .int .i64 (Lib.indexByte s.data.toList (UInt8.ofNat c)) ∧ w' = w) ?_ (fun v w' h => ⟨by rw [h.1], h.2⟩)
  refine (indexByteL_spec s c w).mono ?_
  rintro e w2 ⟨rfl, rfl⟩
  refine ⟨_, rfl, ?_, rfl⟩
  simp
end Go.Proofs.YtfoeooddnmppnaaGreatDoor

/- Go's text functions of this seat: IndexRune, IndexAny and ContainsAny where what is looked for is ASCII; any text. -/
set_option linter.unusedVariables false
namespace Go.Proofs.YtfoeooddnmppnaaGreatDoor
open Go Vc Go.Proofs

theorem validRune_spec (r : Int) (w : World) : Calls Tryz.prog F_utf8_ValidRune #[.int .i32 r] w fun e w' => (∃ b : Bool, e = .returned (.bool b)) ∧ w' = w := by
  refine vc_utf8_ValidRune_ok (R := fun v w' => (∃ b : Bool, v = .bool b) ∧ w' = w) ?_ (fun v w' ⟨⟨b, h⟩, h2⟩ => ⟨⟨b, by rw [h]⟩, h2⟩)
  have t : ∀ b : Bool, (∃ b' : Bool, Value.bool b = .bool b') ∧ w = w := fun b => ⟨⟨b, rfl⟩, rfl⟩
  exact ⟨fun _ => ⟨fun _ => t _, fun _ => ⟨fun _ => ⟨fun _ => t _, fun _ => t _⟩, fun _ => t _⟩⟩, fun _ => ⟨fun _ => ⟨fun _ => t _, fun _ => t _⟩, fun _ => t _⟩⟩
/-- All bytes are ASCII. -/
def Ascii (s : ByteArray) : Prop := ∀ j, j < s.size → byt s j < 128
theorem indexRune_low (s : ByteArray) (r : Nat) (hr : r < 128) (w : World) : Calls Tryz.prog F_strings_IndexRune #[.string s, .int .i32 (r : Int)] w fun e w' => e = .returned (.int .i64 (Lib.indexByte s.data.toList (UInt8.ofNat r))) ∧ w' = w := by
  refine vc_strings_IndexRune_ok (R := fun v w' => v = .int .i64 (Lib.indexByte s.data.toList (UInt8.ofNat r)) ∧ w' = w) ?_ (fun v w' h => ⟨by rw [h.1], h.2⟩)
  refine ⟨fun b w' => b = true ∧ w' = w, ⟨fun _ => ⟨by simp; omega, rfl⟩, fun h => absurd (of_decide_eq_false h) (by omega)⟩, ?_⟩
  rintro b w3 ⟨rfl, rfl⟩
  refine ⟨fun _ => ?_, fun h => by cases h⟩
  rw [wrap_u8 (by omega) (by omega)]
  refine (indexByte_spec s r (by omega) w3).mono ?_
  rintro e w5 ⟨rfl, rfl⟩
  exact ⟨_, rfl, rfl, rfl⟩
theorem ascii_none {s : ByteArray} (hs : Ascii s) {c : UInt8} (hc : 128 ≤ c.toNat) (i j : Nat) (hj : j ≤ s.size) : Lib.indexByte (s.extract i j).data.toList c = -1 := by
  refine fnd_no fun k hk he => ?_
  have hk' : k < j - i := by rw [ByteArray.size_extract] at hk; omega
  rw [byt_extract hj hk'] at he
  have := hs (i + k) (by omega)
  omega
theorem indexRune_high (s : ByteArray) (hs : Ascii s) (hl : s.size ≤ 1000000) (r : Nat) (hr : 128 ≤ r) (hr2 : r ≤ 1114111) (w : World) : Calls Tryz.prog F_strings_IndexRune #[.string s, .int .i32 (r : Int)] w fun e w' => e = .returned (.int .i64 (-1)) ∧ Fr (fun _ => False) w w' := by
  refine vc_strings_IndexRune_ok (R := fun v w' => v = .int .i64 (-1) ∧ Fr (fun _ => False) w w') ?_ (fun v w' h => ⟨by rw [h.1], h.2⟩)
  refine ⟨fun b w' => b = false ∧ w' = w, ⟨fun _ => ⟨by simp; omega, rfl⟩, fun _ => ⟨rfl, rfl⟩⟩, ?_⟩
  rintro b w3 ⟨rfl, rfl⟩
  refine ⟨fun h => (by cases h), fun _ => ⟨fun _ => ?_, fun _ => ?_⟩⟩
  · obtain ⟨w7, hr7, hi7, hf7⟩ := iter_new (P := Tryz.prog) (w := w3) (t := 9) (s := s) (by kernel_rfl)
    refine ⟨w7, _, hr7, fun w' => ∃ p, IsIter w' w3.heap.size s p ∧ p ≤ s.size ∧ Fr (fun _ => False) w3 w', itLeft w3.heap.size, ⟨0, hi7, Nat.zero_le _, hf7⟩, ?_⟩
    rintro w11 ⟨p, hi, hp, hf⟩
    by_cases hps : p < s.size
    · refine .inr ?_
      obtain ⟨w13, hr13, hi13, hf13⟩ := iter_next (P := Tryz.prog) hi hps 0
      have hd := dec_low hps (hs p hps)
      rw [hd] at hr13 hi13
      have hb := hs p hps
      refine ⟨w13, _, _, hr13, fun _ => ⟨fun h => ?_, fun _ => ⟨⟨p + 1, hi13, by omega, hf.trans hf13 fun k hk e => by omega⟩, ?_⟩⟩, fun h => (by cases h)⟩
      · exfalso
        have := eq_of_beq h
        simp only at this
        omega
      · rw [hi13.left, hi.left]; omega
    · exact .inl ⟨w11, iter_end hi (by omega) 0, fun h => (by cases h), fun _ => ⟨rfl, hf⟩⟩
  · refine (validRune_spec _ w3).mono ?_
    rintro e w17 ⟨⟨b, rfl⟩, rfl⟩
    refine ⟨b, rfl, fun _ => ⟨rfl, .refl _ _⟩, fun _ => ?_⟩
    obtain ⟨e1, e2, e3⟩ := enc_high hr
    refine ⟨w17, Utf8.encode r, run_convert_int_string w17 _ _ _ _ (by kernel_rfl) (by kernel_rfl), ?_⟩
    generalize Utf8.encode (r : Int) = t at e1 e2 e3 ⊢
    have ew : IntKind.i64.wrap ((t.size : Int) - 1) = ((t.size - 1 : Nat) : Int) := by rw [wrap_i64 (by omega) (by omega)]; omega
    rw [ew]
    refine ⟨fun i w' => i = ((t.size - 1 : Nat) : Int) ∧ w' = w17, fun _ _ => 0, ⟨rfl, rfl⟩, ?_⟩
    rintro i w24 ⟨rfl, rfl⟩
    refine ⟨fun hlt => ?_, fun _ => ⟨rfl, .refl _ _⟩⟩
    have hlt := of_decide_eq_true hlt
    have hne : (byteAt s ((t.size - 1 : Nat) : Int) != byteAt t ((t.size - 1 : Nat) : Int)) = true := by
      rw [byteAt_nat, byteAt_nat]
      have := hs (t.size - 1) (by omega)
      simp; omega
    refine ⟨fun _ _ => False, ⟨⟨by omega, by omega⟩, ⟨by omega, by omega⟩, fun w26 d26 => ⟨fun _ w27 d27 => ?_, fun h => (by rw [hne] at h; cases h)⟩⟩, fun _ _ h => h.elim⟩
    have ew2 : IntKind.i64.wrap (((t.size - 1 : Nat) : Int) + 1) = ((t.size : Nat) : Int) := by rw [wrap_i64 (by omega) (by omega)]; omega
    rw [ew2]
    refine ⟨fun w' => True, trivial, ⟨by omega, by omega⟩, ⟨by omega, by omega⟩, ?_⟩
    rw [byteAt_nat]
    refine (indexByte_spec _ _ (byt_lt _ _) w27).mono ?_
    rintro e w30 ⟨rfl, hw⟩
    rw [ascii_none hs (by rw [toNat_of _ (byt_lt _ _)]; exact e3) _ _ (Nat.le_refl _)]
    refine ⟨_, rfl, trivial, fun _ => ⟨rfl, ?_⟩, fun h => absurd h (by decide)⟩
    subst hw
    exact (Fr.drew _ d26).trans' (.drew _ d27)
theorem shouldSet_spec (n : Int) (w : World) : Calls Tryz.prog F_strings_shouldUseASCIISet #[.int .i64 n] w fun e w' => e = .returned (.bool (decide (n > 8))) ∧ w' = w :=
  vc_strings_shouldUseASCIISet_ok (R := fun v w' => v = .bool (decide (n > 8)) ∧ w' = w) ⟨rfl, rfl⟩ (fun v w' h => ⟨by rw [h.1], h.2⟩)
theorem indexAny_spec (s cs : ByteArray) (hs : s.size ≤ 4000000000) (h2 : 2 ≤ cs.size) (hl : cs.size ≤ 1000000) (hc : Ascii cs) (w : World) :
    Calls Tryz.prog F_strings_IndexAny #[.string s, .string cs] w fun e w' => e = .returned (.int .i64 (Lib.indexAny s.data.toList cs.data.toList)) ∧ Fr (fun _ => False) w w' := by
  by_cases h8 : 8 < s.size
  · refine (Any.strings_IndexAny_long lays153 (fun w => by kernel_rfl) (by kernel_rfl) s cs w h2 h8 (by omega) (by omega) (fun j b hb => ?_)).mono ?_
    · obtain ⟨h1, h3⟩ := bs_get? hb
      have := hc j h1; omega
    · rintro e w' ⟨rfl, rfl⟩
      exact ⟨rfl, (Fr.alloc _ _ _).trans' (.alloc _ _ _)⟩
  · refine vc_strings_IndexAny_ok (R := fun v w' => v = .int .i64 (Lib.indexAny s.data.toList cs.data.toList) ∧ Fr (fun _ => False) w w') ?_ (fun v w' h => ⟨by rw [h.1], h.2⟩)
    refine ⟨fun h => ?_, fun _ => ⟨fun h => ?_, fun _ => ⟨fun w' => w' = w, ?_, ?_⟩⟩⟩
    · rw [bs_eq] at h
      have := of_decide_eq_true h
      rw [bs_empty] at this; omega
    · have := eq_of_beq h; omega
    · refine (shouldSet_spec _ w).mono ?_
      rintro e w9 ⟨rfl, rfl⟩
      rw [decide_eq_false (show ¬ ((s.size : Int) > 8) by omega)]
      exact ⟨_, rfl, fun h => (by cases h), fun _ => rfl⟩
    · rintro w24 rfl
      obtain ⟨w7, hr7, hi7, hf7⟩ := iter_new (P := Tryz.prog) (w := w24) (t := 9) (s := s) (by kernel_rfl)
      refine ⟨w7, _, hr7, fun w' => ∃ p, IsIter w' w24.heap.size s p ∧ p ≤ s.size ∧ Fr (fun _ => False) w24 w' ∧ Lib.NoAny s.data.toList cs.data.toList p, itLeft w24.heap.size, ⟨0, hi7, Nat.zero_le _, hf7, .zero _ _⟩, ?_⟩
      rintro w11 ⟨p, hi, hp, hf, hn⟩
      by_cases hps : p < s.size
      · refine .inr ?_
        obtain ⟨w13, hr13, hi13, hf13⟩ := iter_next (P := Tryz.prog) hi hps 0
        have hfn : Fr (fun _ => False) w24 w13 := hf.trans hf13 fun k hk e => by omega
        refine ⟨w13, _, _, hr13, fun _ => ?_, fun h => (by cases h)⟩
        by_cases hb : byt s p < 128
        · rw [dec_low hps hb]
          rw [dec_low hps hb] at hi13
          refine (indexRune_low cs (byt s p) hb w13).mono ?_
          rintro e w35 ⟨rfl, rfl⟩
          have hcon := Lib.contains_iff_indexByte cs.data.toList (UInt8.ofNat (byt s p))
          refine ⟨_, rfl, fun h => ⟨?_, hfn⟩, fun h => ⟨⟨p + 1, hi13, by omega, hfn, hn.succ (bs_get hps) ?_⟩, ?_⟩⟩
          · have h := of_decide_eq_true h
            rw [decide_eq_true (show (0 : Int) ≤ Lib.indexByte cs.data.toList (UInt8.ofNat (byt s p)) from h)] at hcon
            rw [Lib.indexAny_hit hn (bs_get hps) hcon]
          · have h := of_decide_eq_false h
            rw [hcon]
            exact decide_eq_false h
          · rw [hi13.left, hi.left]; omega
        · obtain ⟨d1, d2, d3, d4, d5⟩ := dec_high hps (by omega)
          refine (indexRune_high cs hc hl _ d1 d2 w13).mono ?_
          rintro e w35 ⟨rfl, hf35⟩
          refine ⟨_, rfl, fun h => absurd h (by decide), fun h => ⟨⟨_, hi13.keep hf35 (by simp), d4, hfn.trans' hf35, ?_⟩, ?_⟩⟩
          · intro j b hj hb'
            by_cases hjp : j < p
            · exact hn j b hjp hb'
            · obtain ⟨h1, h3⟩ := bs_get? hb'
              have h4 := d5 j (by omega) hj
              refine Bool.eq_false_iff.2 fun hcont => ?_
              obtain ⟨k, hk, hkb⟩ := List.getElem_of_mem (List.contains_iff_mem.1 hcont)
              have := bs_get? (s := cs) (i := k) (c := b) (by rw [List.getElem?_eq_getElem hk, hkb])
              have := hc k this.1
              omega
          · rw [(hi13.keep hf35 (by simp)).left, hi.left]; omega
      · refine .inl ⟨w11, iter_end hi (by omega) 0, fun h => (by cases h), fun _ => ⟨?_, hf⟩⟩
        have : p = s.size := by omega
        subst this
        rw [Lib.indexAny_none (by rw [bs_len]; exact hn)]
theorem containsAny_eq (s cs : List UInt8) : decide (Lib.indexAny s cs ≥ 0) = s.any fun c => cs.contains c := by
  induction s with
  | nil => rfl
  | cons b l ih =>
    have hg := Lib.indexAny_ge cs l
    rw [Lib.indexAny, List.any_cons, ← ih]
    cases hb : cs.contains b
    · simp only [Bool.false_eq_true, if_false, Bool.false_or]
      by_cases h : Lib.indexAny l cs = -1
      · rw [h]; rfl
      · rw [if_neg (by simpa using h)]
        refine decide_eq_decide.2 ?_
        omega
    · simp
theorem containsAny_spec (s cs : ByteArray) (hs : s.size ≤ 4000000000) (h2 : 2 ≤ cs.size) (hl : cs.size ≤ 1000000) (hc : Ascii cs) (w : World) :
    Calls Tryz.prog F_strings_ContainsAny #[.string s, .string cs] w fun e w' => e = .returned (.bool (s.data.toList.any fun c => cs.data.toList.contains c)) ∧ Fr (fun _ => False) w w' := by
  refine vc_strings_ContainsAny_ok (R := fun v w' => v = .bool (s.data.toList.any fun c => cs.data.toList.contains c) ∧ Fr (fun _ => False) w w') ?_ (fun v w' h => ⟨by rw [h.1], h.2⟩)
  refine (indexAny_spec s cs hs h2 hl hc w).mono ?_
  rintro e w2 ⟨rfl, hf⟩
  exact ⟨_, rfl, by rw [containsAny_eq], hf⟩
end Go.Proofs.YtfoeooddnmppnaaGreatDoor

/- modfile.FilePath: is a text a file's path? Condition: it is no longer than memory. -/
set_option linter.unusedVariables false
namespace Go.Proofs.YtfoeooddnmppnaaGreatDoor
open Go Vc Go.Proofs Go.RowKit Go.Shelf
attribute [local go_sem] Oper.semAt_some

def badS : ByteArray := ⟨#[34, 39, 42, 60, 62, 63, 96, 124, 92, 58, 59]⟩
def dotOK (p : ByteArray) : Bool := decide (byt p (p.size - 1) ≠ 46)
theorem bad_any (s : ByteArray) : (s.data.toList.any fun c => badS.data.toList.contains c) = s.data.toList.any fun c => badL.contains c := by
  rfl
theorem bad_ascii : Ascii badS := by
  intro j hj
  have : j < 11 := hj
  have key : ∀ j : Fin 11, byt badS j < 128 := by decide
  exact key ⟨j, this⟩
theorem fileB_parts (s : ByteArray) (hc : cleanB s = true) (hb : (s.data.toList.any fun c => badL.contains c) = false) : fileB s = (partsF s.size s).all dotOK := by
  unfold fileB
  rw [hc, hb, partsF_L _ _ (Nat.le_refl _), bsm, List.all_map]
  simp only [Bool.not_false, Bool.and_self, Bool.true_and]
  congr 1
theorem clean_parts {s : ByteArray} (hc : cleanB s = true) : s.size ≤ 200 ∧ ∀ p ∈ partsF s.size s, p.size ≠ 0 ∧ p.size ≤ 200 := by
  unfold cleanB at hc
  simp only [Bool.and_eq_true] at hc
  have h1 := of_decide_eq_true hc.1.1
  refine ⟨h1, fun p hp => ?_⟩
  have h2 := List.all_eq_true.1 hc.1.2 p hp
  rw [partsF_L _ _ (Nat.le_refl _), bsm] at hp
  obtain ⟨q, hq, rfl⟩ := List.mem_map.1 hp
  have h3 := partsL_size _ q hq
  rw [bs_len] at h3
  refine ⟨fun e => ?_, by rw [bs_mksize]; omega⟩
  rw [bs_empty.2 e] at h2
  revert h2; decide
set_option maxRecDepth 100000 in
set_option maxHeartbeats 2000000 in
theorem filePath_spec (s : ByteArray) (hs : s.size ≤ 140737488355328) (w : World) : Calls Tryz.prog 64 #[.string s] w fun e w' => e = .returned (.bool (fileB s)) ∧ Fr (fun _ => False) w w' := by
  refine (callsIn_wide (n := 3)).1 ?_
  refine callsIn_of_wp_marks Tryz.func64 rfl trivial ?_ rfl
  simp only [Tryz.ntmps64, List.size_toArray, List.length_cons, List.length_nil, Nat.reduceAdd, Nat.reduceSub, Array.replicate_succ, Array.replicate_zero, List.push_toArray, List.append_toArray, List.nil_append, List.cons_append]
  obtain ⟨w0, hw0⟩ : ∃ w0, w.alloc (.cells #[.bool false] 4) = w0 := ⟨_, rfl⟩
  have hsz : w0.heap.size = w.heap.size + 1 := by rw [← hw0]; simp
  have hb0 : w0.heap[w.heap.size]? = some (.cells #[.bool false] 4 (0, 0)) := by rw [← hw0]; exact alloc_new _ _
  have hf0 : Fr (fun _ => False) w w0 := by rw [← hw0]; exact .alloc _ _ _
  by_cases hc : cleanB s = true
  rotate_left
  · have hc : cleanB s = false := by simpa using hc
    have hcc : ∀ w', Fr (fun _ => False) w0 w' → w'.cell? ⟨w.heap.size, 0, none⟩ = some (.bool false) := fun w' hf => by rw [cell_blk (hf.keep hb0 (by simp))]; rfl
    have hcz : ∀ w', Fr (fun _ => False) w0 w' → w'.frozen? ⟨w.heap.size, 0, none⟩ = false := fun w' hf => frozen_blk (hf.keep hb0 (by simp)) 0
    gi_wp2_with (refine ⟨trivial, ?_⟩; gi_at_call 21; refine (callsIn_wide.2 (clean_spec s hs _)).mono ?_; rintro e w' ⟨rfl, hf'⟩; simp only [hc]; have hc1 := hcc _ hf'; have hz1 := hcz _ hf')
    refine ⟨trivial, ?_⟩
    gi_wp2
    have hst : Fr (· = w.heap.size) w' (w'.setCell ⟨w.heap.size, 0, none⟩ (.bool false)) := .set _ _ _ rfl
    have hc5 : (w'.setCell ⟨w.heap.size, 0, none⟩ (.bool false)).cell? ⟨w.heap.size, 0, none⟩ = some (.bool false) := World.cell?_setCell_same' _ _ _ (by rw [hc1]; rfl)
    refine ⟨.bool false, ?_, ?_, (hf0.trans' hf').trans hst fun q hq e => by omega⟩
    · simp [results, Tryz.f64, go_sem, hc5]
    · unfold fileB; rw [hc]; rfl
  · have hcc : ∀ w', Fr (fun _ => False) w0 w' → w'.cell? ⟨w.heap.size, 0, none⟩ = some (.bool false) := fun w' hf => by rw [cell_blk (hf.keep hb0 (by simp))]; rfl
    have hcz : ∀ w', Fr (fun _ => False) w0 w' → w'.frozen? ⟨w.heap.size, 0, none⟩ = false := fun w' hf => frozen_blk (hf.keep hb0 (by simp)) 0
    obtain ⟨hs2, hps⟩ := clean_parts hc
    gi_wp2_with (refine ⟨trivial, ?_⟩; gi_at_call 21; refine (callsIn_wide.2 (clean_spec s hs _)).mono ?_; rintro e w' ⟨rfl, hf'⟩; simp only [hc]; have hc1 := hcc _ hf'; have hz1 := hcz _ hf')
    by_cases hb : (s.data.toList.any fun c => badL.contains c) = true
    · refine ⟨trivial, ?_⟩
      gi_at_call 80
      refine (callsIn_wide.2 (containsAny_spec s badS (by omega) (by decide) (by decide) bad_ascii _)).mono ?_
      rintro e w3 ⟨rfl, hf3⟩
      rw [bad_any, hb]
      have hc3 := hcc _ (hf'.trans' hf3)
      have hz3 := hcz _ (hf'.trans' hf3)
      gi_wp2
      have hst : Fr (· = w.heap.size) w3 (w3.setCell ⟨w.heap.size, 0, none⟩ (.bool false)) := .set _ _ _ rfl
      have hc5 : (w3.setCell ⟨w.heap.size, 0, none⟩ (.bool false)).cell? ⟨w.heap.size, 0, none⟩ = some (.bool false) := World.cell?_setCell_same' _ _ _ (by rw [hc3]; rfl)
      refine ⟨.bool false, ?_, ?_, ((hf0.trans' hf').trans' hf3).trans hst fun q hq e => by omega⟩
      · simp [results, Tryz.f64, go_sem, hc5]
      · unfold fileB; rw [hc, hb]; rfl
    · have hb : (s.data.toList.any fun c => badL.contains c) = false := by simpa using hb
      have hFB := fileB_parts s hc hb
      refine ⟨trivial, ?_⟩
      gi_at_call 80
      refine (callsIn_wide.2 (containsAny_spec s badS (by omega) (by decide) (by decide) bad_ascii _)).mono ?_
      rintro e w3 ⟨rfl, hf3⟩
      rw [bad_any, hb]
      have hc3 := hcc _ (hf'.trans' hf3)
      have hz3 := hcz _ (hf'.trans' hf3)
      have hb3 := (hf'.trans' hf3).keep hb0 (by simp)
      have hF3 := (hf0.trans' hf').trans' hf3
      gi_wp2_with (refine ⟨trivial, ?_⟩; gi_at_call 54; refine (callsIn_wide.2 (splitSeq_spec s _)).mono ?_; rintro e w' ⟨rfl, rfl⟩)
      clear hw0 hf' hcc hcz
      obtain ⟨n, hn⟩ : ∃ n, w3.heap.size = n := ⟨_, rfl⟩
      have hwn : w.heap.size < n := by rw [← hn]; exact lt_blk hb3
      obtain ⟨w1, hw1⟩ : ∃ w1, ((w3.alloc (.cells #[.string s] 9)).alloc (.cells #[.string ⟨#[47]⟩] 9)).alloc (.cells #[.int .i64 0] 3) = w1 := ⟨_, rfl⟩
      have hf1 : Fr (fun _ => False) w3 w1 := by rw [← hw1]; exact ((Fr.alloc _ _ _).trans' (.alloc _ _ _)).trans' (.alloc _ _ _)
      have n1 : (w3.alloc (.cells #[.string s] 9)).heap.size = n + 1 := by simp [hn]
      have n2 : ((w3.alloc (.cells #[.string s] 9)).alloc (.cells #[.string ⟨#[47]⟩] 9)).heap.size = n + 2 := by simp [hn]
      have hbs : w1.heap[n]? = some (.cells #[.string s] 9 (0, 0)) := by
        rw [← hw1, ← hn]
        exact (Fr.alloc (fun _ => False) _ _).keep ((Fr.alloc (fun _ => False) _ _).keep (alloc_new w3 _) (by simp)) (by simp)
      have hbp : w1.heap[n + 1]? = some (.cells #[.string ⟨#[47]⟩] 9 (0, 0)) := by
        rw [← hw1, ← n1]
        exact (Fr.alloc (fun _ => False) _ _).keep (alloc_new _ _) (by simp)
      have hbz : w1.heap[n + 2]? = some (.cells #[.int .i64 0] 3 (0, 0)) := by
        rw [← hw1, ← n2]
        exact alloc_new _ _
      rw [hw1, hn]
      clear hw1 n1 n2
      refine range_split (B := n) (b0 := n + 1) (b1 := n) (b2 := n + 2) (by omega) (by omega) (by omega) (by omega) (by omega) rfl s hs
        (by rw [cell_blk hbp]; rfl) (by rw [cell_blk hbs]; rfl) (by rw [cell_blk hbz]; rfl) (frozen_blk hbs 0)
        (fun pre W => (∀ p ∈ pre, dotOK p = true) ∧ W.heap[w.heap.size]? = some (.cells #[.bool false] 4 (0, 0)) ∧ Fr (fun _ => False) w W)
        (fun pre W => (∃ p ∈ partsF s.size s, dotOK p = false) ∧ W.cell? ⟨w.heap.size, 0, none⟩ = some (.bool false) ∧ Fr (fun _ => False) w W)
        (fun pre W W' ⟨h1, h2, h3⟩ hf => ⟨h1, hf.keep h2 (by omega), h3.trans hf fun q hq h => by omega⟩)
        (fun pre W W' ⟨h1, h2, h3⟩ hf => ⟨h1, hf.cell h2 (by simp only; omega), h3.trans hf fun q hq h => by omega⟩)
        ⟨by simp, hf1.keep hb3 (by simp), hF3.trans' hf1⟩
        (fun x => { tmps := #[.string s, undef, .pointer (some ⟨w.heap.size, 0, none⟩), .string x, .string s, .bool true, .bool false, .bool false, .string s, .bool false, .bool false, .string s, .func (.func 87) #[] #[.pointer (some ⟨n + 1, 0, none⟩), .pointer (some ⟨n, 0, none⟩), .pointer (some ⟨n + 2, 0, none⟩)], .string x, undef, undef, undef, undef, undef, undef], defers := [] }) ?assign ?body ?done ?stop
      case assign =>
        intro l x W K hK
        gi_wp2
        exact hK
      case body =>
        rintro l pre x W ⟨hp, hcell, hf⟩ hr
        have hcc : W.cell? ⟨w.heap.size, 0, none⟩ = some (.bool false) := by rw [cell_blk hcell]; rfl
        have hcz : W.frozen? ⟨w.heap.size, 0, none⟩ = false := frozen_blk hcell 0
        have hxm : x ∈ partsF s.size s := by obtain ⟨r, hr⟩ := hr; rw [← hr]; simp
        obtain ⟨hx0, hx2⟩ := hps x hxm
        have hget : ∀ (h : x.size - 1 < x.size), (x[x.size - 1]'h).toNat = byt x (x.size - 1) := fun h => by
          unfold byt; rw [Lib.data_getElem? x _ h]; rfl
        gi_wp2
        · rename_i h46
          have hb46 : byt x (x.size - 1) = 46 := by have := eq_of_beq h46; omega
          exact ⟨Fr.set _ _ _ hwn, ⟨x, hxm, by unfold dotOK; rw [hb46]; rfl⟩, World.cell?_setCell_same' _ _ _ (by rw [hcc]; rfl), hf.trans (Fr.set (· = w.heap.size) _ _ rfl) fun q hq e => by omega⟩
        · rename_i h46
          have hb46 : byt x (x.size - 1) ≠ 46 := fun e => by rw [e] at h46; simp at h46
          refine ⟨.refl _ _, fun p hpm => ?_, hcell, hf⟩
          rcases List.mem_append.1 hpm with hpm | hpm
          · exact hp p hpm
          · simp only [List.mem_cons, List.mem_nil_iff, or_false] at hpm
            subst hpm
            exact decide_eq_true hb46
      case done =>
        rintro D W hD ⟨hall, hcell, hf⟩ hK
        have hcc : W.cell? ⟨w.heap.size, 0, none⟩ = some (.bool false) := by rw [cell_blk hcell]; rfl
        have hcz : W.frozen? ⟨w.heap.size, 0, none⟩ = false := frozen_blk hcell 0
        gi_wp2
        have hne : D ≠ w.heap.size := by have := hf1.size; omega
        have hst : Fr (· = w.heap.size) W (W.setCell ⟨w.heap.size, 0, none⟩ (.bool true)) := .set _ _ _ rfl
        have hK' := hst.keep hK hne
        refine ⟨by simp, .inl ⟨_, _, rfl, run_takeDeferred hK', ?_⟩⟩
        have hpt : Fr (· = D) (W.setCell ⟨w.heap.size, 0, none⟩ (.bool true)) ((W.setCell ⟨w.heap.size, 0, none⟩ (.bool true)).putObj D (.deferred none)) := (Fr.grown (grownBy_putObj' _ D _)).mono fun q _ h => by cases h; rfl
        have hc5 := hpt.cell (World.cell?_setCell_same' W ⟨w.heap.size, 0, none⟩ (.bool true) (by rw [hcc]; rfl)) (fun h => hne h.symm)
        refine ⟨.bool true, ?_, ?_, ?_⟩
        · simp [results, Tryz.f64, go_sem, hc5]
        · have : (partsF s.size s).all dotOK = true := List.all_eq_true.2 hall
          rw [hFB, this]
        · have h1 := hf.size
          have h2 := (hF3.trans' hf1).size
          exact (hf.trans hst fun q hq e => by omega).trans hpt fun q hq e => by omega
      case stop =>
        rintro D pre W hD ⟨⟨p, hpm, hpb⟩, hcell, hf⟩ hK
        have hne : D ≠ w.heap.size := by have := hf1.size; omega
        gi_wp2
        refine ⟨by simp, .inl ⟨_, _, rfl, run_takeDeferred hK, ?_⟩⟩
        have hpt : Fr (· = D) W (W.putObj D (.deferred none)) := (Fr.grown (grownBy_putObj' _ D _)).mono fun q _ h => by cases h; rfl
        have hc5 := hpt.cell hcell (fun h => hne h.symm)
        refine ⟨.bool false, ?_, ?_, ?_⟩
        · simp [results, Tryz.f64, go_sem, hc5]
        · have : (partsF s.size s).all dotOK = false := by
            rw [← Bool.not_eq_true, List.all_eq_true]
            intro h
            rw [h p hpm] at hpb; cases hpb
          rw [hFB, this]
        · have h2 := (hF3.trans' hf1).size
          exact hf.trans hpt fun q hq e => by omega
end Go.Proofs.YtfoeooddnmppnaaGreatDoor

/- Formulas of 2 Go functions of this seat (written by a program of the author's, vcgen.py), and that each is enough for the call. No condition. -/
set_option linter.unusedVariables false
namespace Go.Proofs.YtfoeooddnmppnaaGreatDoor
open Go Vc Go.Proofs
set_option maxRecDepth 100000
/-- strings.HasPrefix -/
def vc_strings_HasPrefix (x0 : ByteArray) (x1 : ByteArray) (w : World) (R : Value → World → Prop) : Prop :=
  Calls Tryz.prog (61 : Nat) (Array.mk [Value.string x0, Value.string x1]) (w) (fun e1 w2 =>
    ∃ b3 : Bool, (e1 = Ending.returned (Value.bool b3) ∧
     R (Value.bool b3) w2))
theorem vc_strings_HasPrefix_ok {x0 : ByteArray} {x1 : ByteArray} {w : World} {R : Value → World → Prop} {R' : Ending → World → Prop} (h : vc_strings_HasPrefix x0 x1 w R) (hR : ∀ v w', R v w' → R' (.returned v) w') :
    Calls Tryz.prog 29 #[.string x0, .string x1] w R' :=
  calls_of_body (vs := [(.string x0, false), (.string x1, false)]) (ty := ty) (ann := ⟨[], [], [], []⟩) (c := Tryz.f29.body.getD .skip) (by kernel_rfl) Tryz.func29 (by kernel_rfl) (by kernel_rfl) (Eq.mp (by kernel_rfl) h) hR
/-- internal/stringslite.HasPrefix -/
def vc_stringslite_HasPrefix (x0 : ByteArray) (x1 : ByteArray) (w : World) (R : Value → World → Prop) : Prop :=
  (((decide ((↑(ByteArray.size x0) : Int) ≥ (↑(ByteArray.size x1) : Int)) = true →
     ((0 ≤ (↑(ByteArray.size x1) : Int) ∧
       (↑(ByteArray.size x1) : Int) ≤ (↑(ByteArray.size x0) : Int)) ∧
      R (Value.bool (ByteArray.toList (ByteArray.extract x0 0 (Int.toNat (↑(ByteArray.size x1) : Int))) == ByteArray.toList x1)) w))) ∧
   (decide ((↑(ByteArray.size x0) : Int) ≥ (↑(ByteArray.size x1) : Int)) = false →
     R (Value.bool false) w))
theorem vc_stringslite_HasPrefix_ok {x0 : ByteArray} {x1 : ByteArray} {w : World} {R : Value → World → Prop} {R' : Ending → World → Prop} (h : vc_stringslite_HasPrefix x0 x1 w R) (hR : ∀ v w', R v w' → R' (.returned v) w') :
    Calls Tryz.prog 61 #[.string x0, .string x1] w R' :=
  calls_of_body (vs := [(.string x0, false), (.string x1, false)]) (ty := ty) (ann := ⟨[], [], [], []⟩) (c := Tryz.f61.body.getD .skip) (by kernel_rfl) Tryz.func61 (by kernel_rfl) (by kernel_rfl) (Eq.mp (by kernel_rfl) h) hR
end Go.Proofs.YtfoeooddnmppnaaGreatDoor

/- Formulas of 7 Go functions of this seat (written by a program of the author's, vcgen.py), and that each is enough for the call. No condition. -/
set_option linter.unusedVariables false
namespace Go.Proofs.YtfoeooddnmppnaaGreatDoor
open Go Vc Go.Proofs
set_option maxRecDepth 100000
/-- strings.HasSuffix -/
def vc_strings_HasSuffix (x0 : ByteArray) (x1 : ByteArray) (w : World) (R : Value → World → Prop) : Prop :=
  Calls Tryz.prog (58 : Nat) (Array.mk [Value.string x0, Value.string x1]) (w) (fun e1 w2 =>
    ∃ b3 : Bool, (e1 = Ending.returned (Value.bool b3) ∧
     R (Value.bool b3) w2))
theorem vc_strings_HasSuffix_ok {x0 : ByteArray} {x1 : ByteArray} {w : World} {R : Value → World → Prop} {R' : Ending → World → Prop} (h : vc_strings_HasSuffix x0 x1 w R) (hR : ∀ v w', R v w' → R' (.returned v) w') :
    Calls Tryz.prog 24 #[.string x0, .string x1] w R' :=
  calls_of_body (vs := [(.string x0, false), (.string x1, false)]) (ty := ty) (ann := ⟨[], [], [], []⟩) (c := Tryz.f24.body.getD .skip) (by kernel_rfl) Tryz.func24 (by kernel_rfl) (by kernel_rfl) (Eq.mp (by kernel_rfl) h) hR
/-- internal/stringslite.HasSuffix -/
def vc_stringslite_HasSuffix (x0 : ByteArray) (x1 : ByteArray) (w : World) (R : Value → World → Prop) : Prop :=
  (((decide ((↑(ByteArray.size x0) : Int) ≥ (↑(ByteArray.size x1) : Int)) = true →
     ((0 ≤ IntKind.wrap IntKind.i64 ((↑(ByteArray.size x0) : Int) - (↑(ByteArray.size x1) : Int)) ∧
       IntKind.wrap IntKind.i64 ((↑(ByteArray.size x0) : Int) - (↑(ByteArray.size x1) : Int)) ≤ (↑(ByteArray.size x0) : Int)) ∧
      R (Value.bool (ByteArray.toList (ByteArray.extract x0 (Int.toNat (IntKind.wrap IntKind.i64 ((↑(ByteArray.size x0) : Int) - (↑(ByteArray.size x1) : Int)))) (ByteArray.size x0)) == ByteArray.toList x1)) w))) ∧
   (decide ((↑(ByteArray.size x0) : Int) ≥ (↑(ByteArray.size x1) : Int)) = false →
     R (Value.bool false) w))
theorem vc_stringslite_HasSuffix_ok {x0 : ByteArray} {x1 : ByteArray} {w : World} {R : Value → World → Prop} {R' : Ending → World → Prop} (h : vc_stringslite_HasSuffix x0 x1 w R) (hR : ∀ v w', R v w' → R' (.returned v) w') :
    Calls Tryz.prog 58 #[.string x0, .string x1] w R' :=
  calls_of_body (vs := [(.string x0, false), (.string x1, false)]) (ty := ty) (ann := ⟨[], [], [], []⟩) (c := Tryz.f58.body.getD .skip) (by kernel_rfl) Tryz.func58 (by kernel_rfl) (by kernel_rfl) (Eq.mp (by kernel_rfl) h) hR
/-- strings.Contains -/
def vc_strings_Contains (x0 : ByteArray) (x1 : ByteArray) (w : World) (R : Value → World → Prop) : Prop :=
  Calls Tryz.prog (79 : Nat) (Array.mk [Value.string x0, Value.string x1]) (w) (fun e1 w2 =>
    ∃ n3 : Int, (e1 = Ending.returned (Value.int IntKind.i64 n3) ∧
     R (Value.bool (decide (n3 ≥ 0))) w2))
theorem vc_strings_Contains_ok {x0 : ByteArray} {x1 : ByteArray} {w : World} {R : Value → World → Prop} {R' : Ending → World → Prop} (h : vc_strings_Contains x0 x1 w R) (hR : ∀ v w', R v w' → R' (.returned v) w') :
    Calls Tryz.prog 62 #[.string x0, .string x1] w R' :=
  calls_of_body (vs := [(.string x0, false), (.string x1, false)]) (ty := ty) (ann := ⟨[], [], [], []⟩) (c := Tryz.f62.body.getD .skip) (by kernel_rfl) Tryz.func62 (by kernel_rfl) (by kernel_rfl) (Eq.mp (by kernel_rfl) h) hR
/-- strings.CutPrefix -/
def vc_strings_CutPrefix (x0 : ByteArray) (x1 : ByteArray) (w : World) (R : Value → World → Prop) : Prop :=
  Calls Tryz.prog (57 : Nat) (Array.mk [Value.string x0, Value.string x1]) (w) (fun e1 w2 =>
    ∃ s3 : ByteArray, ∃ b4 : Bool, (e1 = Ending.returned (Value.tuple (Array.mk [Value.string s3, Value.bool b4])) ∧
     R (Value.tuple (Array.mk [Value.string s3, Value.bool b4])) w2))
theorem vc_strings_CutPrefix_ok {x0 : ByteArray} {x1 : ByteArray} {w : World} {R : Value → World → Prop} {R' : Ending → World → Prop} (h : vc_strings_CutPrefix x0 x1 w R) (hR : ∀ v w', R v w' → R' (.returned v) w') :
    Calls Tryz.prog 22 #[.string x0, .string x1] w R' :=
  calls_of_body (vs := [(.string x0, false), (.string x1, false)]) (ty := ty) (ann := ⟨[], [], [], []⟩) (c := Tryz.f22.body.getD .skip) (by kernel_rfl) Tryz.func22 (by kernel_rfl) (by kernel_rfl) (Eq.mp (by kernel_rfl) h) hR
/-- internal/stringslite.CutPrefix -/
def vc_stringslite_CutPrefix (x0 : ByteArray) (x1 : ByteArray) (w : World) (R : Value → World → Prop) : Prop :=
  Calls Tryz.prog (61 : Nat) (Array.mk [Value.string x0, Value.string x1]) (w) (fun e1 w2 =>
    ∃ b3 : Bool, (e1 = Ending.returned (Value.bool b3) ∧
     ((((!b3) = true →
        R (Value.tuple (Array.mk [Value.string x0, Value.bool false])) w2)) ∧
      ((!b3) = false →
        ((0 ≤ (↑(ByteArray.size x1) : Int) ∧
          (↑(ByteArray.size x1) : Int) ≤ (↑(ByteArray.size x0) : Int)) ∧
         R (Value.tuple (Array.mk [Value.string (ByteArray.extract x0 (Int.toNat (↑(ByteArray.size x1) : Int)) (ByteArray.size x0)), Value.bool true])) w2)))))
theorem vc_stringslite_CutPrefix_ok {x0 : ByteArray} {x1 : ByteArray} {w : World} {R : Value → World → Prop} {R' : Ending → World → Prop} (h : vc_stringslite_CutPrefix x0 x1 w R) (hR : ∀ v w', R v w' → R' (.returned v) w') :
    Calls Tryz.prog 57 #[.string x0, .string x1] w R' :=
  calls_of_body (vs := [(.string x0, false), (.string x1, false)]) (ty := ty) (ann := ⟨[], [], [], []⟩) (c := Tryz.f57.body.getD .skip) (by kernel_rfl) Tryz.func57 (by kernel_rfl) (by kernel_rfl) (Eq.mp (by kernel_rfl) h) hR
/-- strings.TrimSuffix -/
def vc_strings_TrimSuffix (x0 : ByteArray) (x1 : ByteArray) (w : World) (R : Value → World → Prop) : Prop :=
  Calls Tryz.prog (59 : Nat) (Array.mk [Value.string x0, Value.string x1]) (w) (fun e1 w2 =>
    ∃ s3 : ByteArray, (e1 = Ending.returned (Value.string s3) ∧
     R (Value.string s3) w2))
theorem vc_strings_TrimSuffix_ok {x0 : ByteArray} {x1 : ByteArray} {w : World} {R : Value → World → Prop} {R' : Ending → World → Prop} (h : vc_strings_TrimSuffix x0 x1 w R) (hR : ∀ v w', R v w' → R' (.returned v) w') :
    Calls Tryz.prog 25 #[.string x0, .string x1] w R' :=
  calls_of_body (vs := [(.string x0, false), (.string x1, false)]) (ty := ty) (ann := ⟨[], [], [], []⟩) (c := Tryz.f25.body.getD .skip) (by kernel_rfl) Tryz.func25 (by kernel_rfl) (by kernel_rfl) (Eq.mp (by kernel_rfl) h) hR
/-- internal/stringslite.TrimSuffix -/
def vc_stringslite_TrimSuffix (x0 : ByteArray) (x1 : ByteArray) (w : World) (R : Value → World → Prop) : Prop :=
  Calls Tryz.prog (58 : Nat) (Array.mk [Value.string x0, Value.string x1]) (w) (fun e1 w2 =>
    ∃ b3 : Bool, (e1 = Ending.returned (Value.bool b3) ∧
     (((b3 = true →
        ((0 ≤ IntKind.wrap IntKind.i64 ((↑(ByteArray.size x0) : Int) - (↑(ByteArray.size x1) : Int)) ∧
          IntKind.wrap IntKind.i64 ((↑(ByteArray.size x0) : Int) - (↑(ByteArray.size x1) : Int)) ≤ (↑(ByteArray.size x0) : Int)) ∧
         R (Value.string (ByteArray.extract x0 0 (Int.toNat (IntKind.wrap IntKind.i64 ((↑(ByteArray.size x0) : Int) - (↑(ByteArray.size x1) : Int)))))) w2))) ∧
      (b3 = false →
        R (Value.string x0) w2))))
theorem vc_stringslite_TrimSuffix_ok {x0 : ByteArray} {x1 : ByteArray} {w : World} {R : Value → World → Prop} {R' : Ending → World → Prop} (h : vc_stringslite_TrimSuffix x0 x1 w R) (hR : ∀ v w', R v w' → R' (.returned v) w') :
    Calls Tryz.prog 59 #[.string x0, .string x1] w R' :=
  calls_of_body (vs := [(.string x0, false), (.string x1, false)]) (ty := ty) (ann := ⟨[], [], [], []⟩) (c := Tryz.f59.body.getD .skip) (by kernel_rfl) Tryz.func59 (by kernel_rfl) (by kernel_rfl) (Eq.mp (by kernel_rfl) h) hR
end Go.Proofs.YtfoeooddnmppnaaGreatDoor
