/- What sum of the package sha does, by block1. Conditions: the texts are short enough for a slice to hold (2 to the 40th). -/
import Derived.Test.YtoagdpjickippaaDoorShaE1
import Derived.Test.YtoagdpjickippaaDoorElB
set_option linter.unusedVariables false
namespace Go.Proofs.YtoagdpjickippaaDoor
open Go Vc ShaM Go.Proofs

/-- What is put behind the text, block1. -/
def tail1 (n : Nat) : List UInt8 := 0x80 :: List.replicate ((119 - n % 64) % 64) 0 ++ (List.range 8).map fun i => UInt8.ofNat (n * 8 / 2 ^ (56 - 8 * i))
theorem pad1_eq (t : List UInt8) : pad t = t ++ tail1 t.length := by simp [pad, tail1]
theorem outw1_eq (x : ShaM.W) : (Array.mk [Value.int .u8 (IntKind.u8.wrap (Int.fdiv (x.toNat : Int) (2 ^ min (Int.toNat 24) 32))), .int .u8 (IntKind.u8.wrap (Int.fdiv (x.toNat : Int) (2 ^ min (Int.toNat 16) 32))), .int .u8 (IntKind.u8.wrap (Int.fdiv (x.toNat : Int) (2 ^ min (Int.toNat 8) 32))), .int .u8 (IntKind.u8.wrap (x.toNat : Int))] : Array Value) = (byteV (outw x)).toArray := by
  have h : ∀ (n k : Nat), IntKind.u8.wrap (Int.fdiv (n : Int) ((k + 1 : Nat) : Int)) = (((UInt8.ofNat (n / (k + 1))).toNat : Nat) : Int) := fun n k => by
    rw [Int.fdiv_eq_ediv_of_nonneg _ (Int.natCast_nonneg _), ← Int.natCast_ediv, wrap_u8_mod, UInt8.toNat_ofNat']
    omega
  have h0 : IntKind.u8.wrap (x.toNat : Int) = (((UInt8.ofNat x.toNat).toNat : Nat) : Int) := by rw [wrap_u8_mod, UInt8.toNat_ofNat']; omega
  have p24 : (2 : Int) ^ min (Int.toNat 24) 32 = ((16777215 + 1 : Nat) : Int) := rfl
  have p16 : (2 : Int) ^ min (Int.toNat 16) 32 = ((65535 + 1 : Nat) : Int) := rfl
  have p8 : (2 : Int) ^ min (Int.toNat 8) 32 = ((255 + 1 : Nat) : Int) := rfl
  rw [p24, p16, p8, h, h, h, h0]
  rfl
theorem hs1_spec {w : World} {b lo : Nat} {sl : Sl} {T : TypeId} {t : List UInt8} (hh : HashAt w b lo sl T block1 start1 t) {a : Option Addr} (c : Nat) (hst : Reads w a (uv start1)) (hx : t.length + 200 ≤ 1099511627776) :
    Calls Tryd.prog F_sha_hash_sum #[.pointer (some ⟨b, 0, none⟩), .slice a 5 c, .func (.func F_sha_block1) #[] #[]] w fun e w' => e = .returned (.string ⟨(digest block1 start1 t).toArray⟩) ∧ Fr (fun _ => False) w w' := by
  refine vc_sha_hash_sum_1_ok (R := fun v w' => v = .string ⟨(digest block1 start1 t).toArray⟩ ∧ Fr (fun _ => False) w w') ?_ (fun v w' h => ⟨by rw [h.1], h.2⟩)
  obtain ⟨r, hr, hblk⟩ := hh.blk
  have hbw := lt_blk hblk
  have hrs : r.size = t.length % 64 := by rw [← rest_length, ← hr]; simp
  -- the copy's words
  have copy_ : ∀ w2, Fr (fun _ => False) w w2 → ∃ w3 l3, (Builtin.append_ #[T_S_uint32, T_S_uint32] T_S_uint32 #[.slice none 0 0, .slice sl.a sl.len sl.cap]).run Tryd.prog w2 = .ok (.slice l3.a l3.len l3.cap) w3 ∧ Fr (fun _ => False) w2 w3 ∧
      (∀ y, l3.a = some y → w2.heap.size ≤ y.block ∧ y.block < w3.heap.size) ∧ ((sl = ⟨none, 0, 0⟩ ∧ t = [] ∧ l3 = ⟨none, 0, 0⟩) ∨ (Own w3 w.heap.size T_uint32 l3 (uv (stt block1 start1 t)) ∧ sl.a ≠ none)) := fun w2 f2 => by
    have hsz := f2.size
    rcases hh.own with ⟨h1, h2⟩ | ⟨ho, hne⟩
    · obtain ⟨w3, l3, hr3, o3, f3, s3⟩ := append_all' (w := w2) elU32 (Own.nil w2 w.heap.size T_uint32) sl.cap (Reads.nil w2 sl.a) (by simp) (by decide) (by decide) hsz (m := sl.len) (by rw [h1]; rfl)
      have f3' : Fr (fun _ => False) w2 w3 := f3.mono fun k hk ⟨y, hy, _⟩ => by cases hy
      have hl3 : l3.a = none := by
        cases h : l3.a with
        | none => rfl
        | some y =>
          exfalso
          subst h1
          have hr4 := append_all' (w := w2) elU32 (Own.nil w2 w.heap.size T_uint32) 0 (Reads.nil w2 none) (by simp) (by decide) (by decide) hsz (m := 0) rfl
          have : (Builtin.append_ #[T_S_uint32, T_S_uint32] T_S_uint32 #[.slice none 0 0, .slice none 0 0]).run Tryd.prog w2 = .ok (.slice none 0 0) w2 := by
            obtain ⟨i, hi, hi2⟩ := Option.map_eq_some_iff.1 elU32.info
            simp [Builtin.append_, run_underlying elU32.sl, Go.sizeOf, typeInfo, hi, Builtin.lenOf, Builtin.firstCells]
          rw [this] at hr3
          simp only [Result.ok.injEq, Value.slice.injEq] at hr3
          rw [← hr3.1.1] at h; cases h
      have hl3' : l3 = ⟨none, 0, 0⟩ := by
        rcases o3.2 with ⟨_, q1, q2⟩ | ⟨g, cur, hg, _⟩
        · cases l3; simp_all
        · rw [hl3] at hg; cases hg
      exact ⟨w3, l3, hr3, f3', (fun y hy => by rw [hl3] at hy; cases hy), .inl ⟨h1, h2, hl3'⟩⟩
    · obtain ⟨w3, l3, hr3, o3, f3, s3⟩ := append_all' (w := w2) elU32 (Own.nil w2 w.heap.size T_uint32) sl.cap ((ho.keep f2 (by simp)).reads) (one_uv _) (by simp only [List.length_nil, uv_len, stt, blocks_length (f := block1) (fun h p hl => by rw [block1_length]; exact hl) _ _ _ (rfl : start1.length = 5)]; decide)
        (by simp only [List.length_nil, uv_len, stt, blocks_length (f := block1) (fun h p hl => by rw [block1_length]; exact hl) _ _ _ (rfl : start1.length = 5)]; decide) hsz (m := sl.len) ho.len.symm
      rw [List.nil_append] at o3
      have f3' : Fr (fun _ => False) w2 w3 := f3.mono fun k hk ⟨y, hy, _⟩ => by cases hy
      refine ⟨w3, l3, hr3, f3', fun y hy => ?_, .inr ⟨o3, hne⟩⟩
      rcases s3 y hy with ⟨z, hz, _⟩ | hn
      · cases hz
      · exact ⟨hn, (o3.blk hy).2⟩
  refine ⟨fun q w' => ∃ eb slE, q = ⟨eb, 0, none⟩ ∧ w.heap.size ≤ eb ∧ HashAt w' eb w.heap.size slE T_sha_hash block1 start1 t ∧ Fr (fun _ => False) w w', ?_, ?_⟩
  · intro w2 d2
    have f2 : Fr (fun _ => False) w w2 := .drew _ d2
    refine ⟨Fr (fun _ => False) w, f2, sl, fun w5 h5 => by rw [cell_blk (h5.keep hblk (by simp))]; rfl, r, fun w5 h5 => by rw [cell_blk (h5.keep hblk (by simp))]; rfl, _, fun w5 h5 => by rw [cell_blk (h5.keep hblk (by simp))]; rfl, ?_, ?_⟩
    · obtain ⟨w10, l11, hr10, f10, hb10, hc⟩ := copy_ w2 f2
      refine ⟨w10, l11, hr10, f2.trans' f10, ?_⟩
      intro w12 hw12
      have f12 : Fr (fun _ => False) w10 w12 := hw12 ▸ Fr.alloc _ _ _
      have hz12 := alloc_new w10 (.cells #[.slice none 0 0, .string ⟨#[]⟩, .int .u64 0] T_sha_hash)
      rw [← hw12] at hz12
      have h12 := (f2.trans' f10).trans' f12
      have hs := run_storeVar_row (P := Tryd.prog) w12 w10.heap.size T_sha_hash T_sha_hash _ #[.slice l11.a l11.len l11.cap, .string r, .int .u64 (t.length : Int)] hz12 (by kernel_rfl) rfl (by simp [Value.oneCell'])
      refine ⟨h12, _, hs, w10.heap.size, l11, rfl, (f2.trans' f10).size, ?_, ?_⟩
      · have hrow := setRow_heap w12 w10.heap.size _ #[.slice l11.a l11.len l11.cap, .string r, .int .u64 (t.length : Int)] T_sha_hash (0, 0) hz12
        have frow : Fr (· = w10.heap.size) w12 (w12.setRow w10.heap.size #[.slice l11.a l11.len l11.cap, .string r, .int .u64 (t.length : Int)]) := setRow_fr _ _ _ _ rfl
        refine ⟨(f2.trans' f10).size, ⟨r, hr, hrow⟩, hh.len, fun y hy => by have := (hb10 y hy).2; omega, ?_⟩
        rcases hc with ⟨_, h2, h3⟩ | ⟨h1, h2⟩
        · exact .inl ⟨h3, h2⟩
        · refine .inr ⟨(h1.keep f12 (by simp)).keep frow (fun y hy => by have := (hb10 y hy).2; omega), fun hn => ?_⟩
          obtain ⟨y, hy, _⟩ := own_get h1 (i := 0) (by rw [stt, blocks_length (f := block1) (fun h p hl => by rw [block1_length]; exact hl) _ _ _ (rfl : start1.length = 5)]; decide)
          rw [hn] at hy; cases hy
      · exact h12.trans (setRow_fr (· = w10.heap.size) _ _ _ rfl) (fun q hq h => by have := (f2.trans' f10).size; omega)
    · intro w14 hw14
      have f14 : Fr (fun _ => False) w2 w14 := hw14 ▸ Fr.alloc _ _ _
      have hz14 := alloc_new w2 (.cells #[.slice none 0 0, .string ⟨#[]⟩, .int .u64 0] T_sha_hash)
      rw [← hw14] at hz14
      have h14 := f2.trans' f14
      obtain ⟨w15, l16, hr15, f15, hb15, hc⟩ := copy_ w14 h14
      have hz15 := f15.keep hz14 (by simp)
      have hs := run_storeVar_row (P := Tryd.prog) w15 w2.heap.size T_sha_hash T_sha_hash _ #[.slice l16.a l16.len l16.cap, .string r, .int .u64 (t.length : Int)] hz15 (by kernel_rfl) rfl (by simp [Value.oneCell'])
      have h15 := h14.trans' f15
      have hlt14 := lt_blk hz14
      refine ⟨h14, w15, l16, hr15, h15, _, hs, w2.heap.size, l16, rfl, f2.size, ?_, ?_⟩
      · have hrow := setRow_heap w15 w2.heap.size _ #[.slice l16.a l16.len l16.cap, .string r, .int .u64 (t.length : Int)] T_sha_hash (0, 0) hz15
        have frow : Fr (· = w2.heap.size) w15 (w15.setRow w2.heap.size #[.slice l16.a l16.len l16.cap, .string r, .int .u64 (t.length : Int)]) := setRow_fr _ _ _ _ rfl
        refine ⟨f2.size, ⟨r, hr, hrow⟩, hh.len, fun y hy => by have := (hb15 y hy).1; omega, ?_⟩
        rcases hc with ⟨_, h2, h3⟩ | ⟨h1, h2⟩
        · exact .inl ⟨h3, h2⟩
        · refine .inr ⟨h1.keep frow (fun y hy => by have := (hb15 y hy).1; omega), fun hn => ?_⟩
          obtain ⟨y, hy, _⟩ := own_get h1 (i := 0) (by rw [stt, blocks_length (f := block1) (fun h p hl => by rw [block1_length]; exact hl) _ _ _ (rfl : start1.length = 5)]; decide)
          rw [hn] at hy; cases hy
      · exact h15.trans (setRow_fr (· = w2.heap.size) _ _ _ rfl) (fun q hq h => by have := f2.size; omega)
  rintro q w19 ⟨eb, slE, rfl, heb, hE, f19⟩
  have hb19 := f19.keep hblk (by simp)
  refine ⟨fun w' => ∃ slE, HashAt w' eb w.heap.size slE T_sha_hash block1 start1 t ∧ Fr (fun _ => False) w w', ⟨sl, by rw [cell_blk hb19]; rfl, fun hnone => ?_, fun _ => ⟨slE, hE, f19⟩⟩, ?_⟩
  · rcases hh.own with ⟨h1, h2⟩ | ⟨_, hne⟩
    · obtain ⟨r2, hr2, hblk2⟩ := hE.blk
      refine ⟨wr_blk hblk2 (by simp), ?_⟩
      intro w22 hw22
      have hb22 := set_blk hblk2 0 (.slice none 0 0)
      rw [← hw22] at hb22
      have f22 : Fr (· = eb) w19 w22 := hw22 ▸ Fr.set (· = eb) _ (a := ⟨eb, 0, none⟩) _ rfl
      exact ⟨⟨none, 0, 0⟩, ⟨heb, ⟨r2, hr2, hb22⟩, hh.len, (fun y hy => by cases hy), .inl ⟨rfl, h2⟩⟩, f19.trans f22 (fun q hq h => by omega)⟩
    · exfalso
      cases hsa : sl.a with
      | none => exact hne hsa
      | some y => rw [hsa] at hnone; cases hnone
  clear hE f19 hb19 slE
  rintro w23 ⟨slE, hE, f23⟩
  refine ⟨fun s w' => w' = w23 ∧ ∃ j : Nat, j ≤ (119 - t.length % 64) % 64 ∧ s.data.toList = 0x80 :: List.replicate j 0, fun s _ => 200 - s.size, ⟨rfl, 0, Nat.zero_le _, rfl⟩, ?_⟩
  rintro s26 w27 ⟨rfl, j, hj, hs26⟩
  have hb27 := f23.keep hblk (by simp)
  have hs26l : s26.size = j + 1 := by
    have : s26.data.toList.length = s26.size := by simp
    rw [← this, hs26]; simp
  have htl := hh.len
  have e0 : Int.tmod (IntKind.i64.wrap ((r.size : Int) + (s26.size : Int))) 64 = ((((t.length % 64) + j + 1) % 64 : Nat) : Int) := by
    rw [wrap_i64 (by omega) (by omega), Int.tmod_eq_emod_of_nonneg (by omega)]; omega
  have e00 : ((ByteArray.mk (Array.mk [0])).size : Nat) = 1 := rfl
  refine ⟨r, by rw [cell_blk hb27]; rfl, by decide, ?_⟩
  rw [e0]
  refine ⟨fun hne => ?_, fun heq => ?_⟩
  · have hne : ¬ ((t.length % 64) + j + 1) % 64 = 56 := fun h => by rw [h] at hne; exact absurd hne (by decide)
    have hsz : (s26 ++ ByteArray.mk (Array.mk [0])).size = j + 2 := by rw [ByteArray.size_append, hs26l]; rfl
    refine ⟨by omega, ⟨rfl, j + 1, by omega, ?_⟩, ?_⟩
    · rw [ByteArray.data_append, Array.toList_append, hs26, List.replicate_succ']; rfl
    · dsimp only; omega
  have heq : ((t.length % 64) + j + 1) % 64 = 56 := by
    by_cases h : ((t.length % 64) + j + 1) % 64 = 56
    · exact h
    · exfalso
      have : ((((t.length % 64 + j + 1) % 64 : Nat) : Int) != 56) = true := by simp; omega
      rw [this] at heq; cases heq
  have hjz : j = (119 - t.length % 64) % 64 := by omega
  obtain ⟨bs, hbs⟩ : ∃ bs : List UInt8, (List.range 8).map (fun i => UInt8.ofNat (t.length * 8 / 2 ^ (56 - 8 * i))) = bs := ⟨_, rfl⟩
  have hbl : bs.length = 8 := by rw [← hbs]; simp
  refine ⟨fun l i w' => ∃ m : Nat, m ≤ 8 ∧ i = 56 - 8 * (m : Int) ∧ Own w' w27.heap.size T_uint8 l (byteV (bs.take m)) ∧ Fr (fun _ => False) w27 w', fun _ i _ => (i + 8).toNat, ⟨0, by decide, rfl, Own.nil _ _ _, .refl _ _⟩, ?_⟩
  rintro l31 i w33 ⟨m, hm, rfl, o33, f33⟩
  refine ⟨fun hge => ?_, fun hlt => ?_⟩
  · have hge := of_decide_eq_true hge
    have hb33 := f33.keep hb27 (by simp)
    refine ⟨_, by rw [cell_blk hb33]; rfl, hge, ?_⟩
    have hm8 : m < 8 := by omega
    have hg : bs[m]'(by omega) = UInt8.ofNat (t.length * 8 / 2 ^ (56 - 8 * m)) := by
      have h1 : bs[m]? = some (UInt8.ofNat (t.length * 8 / 2 ^ (56 - 8 * m))) := by
        rw [← hbs, List.getElem?_map, List.getElem?_range hm8]; rfl
      exact (List.getElem?_eq_some_iff.1 h1).2
    have htk : bs.take (m + 1) = bs.take m ++ [UInt8.ofNat (t.length * 8 / 2 ^ (56 - 8 * m))] := by rw [List.take_succ_eq_append_getElem (by omega), hg]
    have ev : IntKind.u8.wrap (Int.fdiv (IntKind.u64.wrap ((t.length : Int) * 8)) (2 ^ min (Int.toNat (56 - 8 * (m : Int))) 64)) = (((UInt8.ofNat (t.length * 8 / 2 ^ (56 - 8 * m))).toNat : Nat) : Int) := by
      have h1 : min (Int.toNat (56 - 8 * (m : Int))) 64 = 56 - 8 * m := by omega
      have hp : (2 : Int) ^ (56 - 8 * m) = ((2 ^ (56 - 8 * m) : Nat) : Int) := by push_cast; rfl
      have h2 : IntKind.u64.wrap ((t.length : Int) * 8) = ((t.length * 8 : Nat) : Int) := by rw [wrap_u64 (by omega) (by omega)]; omega
      rw [h1, hp, h2, Int.fdiv_eq_ediv_of_nonneg _ (Int.natCast_nonneg _), ← Int.natCast_ediv, wrap_u8_mod, UInt8.toNat_ofNat']
      omega
    rw [ev]
    intro w35 hw35
    have hl : (byteV (bs.take m)).length = m := by rw [List.length_map, List.length_take, hbl]; omega
    obtain ⟨w36, l37, hr36, o36, f36⟩ := append_one elByte o33 (v := .int .u8 (((UInt8.ofNat (t.length * 8 / 2 ^ (56 - 8 * m))).toNat : Nat) : Int)) rfl (by rw [hl]; unfold maxLen; omega) (by rw [hl]; omega) f33.size hw35
    have e8 : IntKind.i64.wrap (56 - 8 * (m : Int) - 8) = 56 - 8 * ((m + 1 : Nat) : Int) := by rw [wrap_i64 (by omega) (by omega)]; omega
    rw [e8]
    refine ⟨w36, l37, hr36, ⟨m + 1, by omega, rfl, ?_, f33.trans f36 (fun q hq ⟨y, hy, e⟩ => by have := (o33.blk hy).1; omega)⟩, by dsimp only; omega⟩
    rw [htk, byteV, List.map_append]; exact o36
  have hlt := of_decide_eq_false hlt
  have : m = 8 := by omega
  subst this
  rw [List.take_of_length_le (by omega)] at o33
  have hlb : bs.length = l31.len := by rw [o33.len, List.length_map]
  refine ⟨w33, _, bytes_str elByte.sl (by kernel_rfl) (by kernel_rfl) _ o33.reads hlb, ?_⟩
  have hbsz : (ByteArray.mk bs.toArray).size = 8 := by show bs.toArray.size = 8; rw [List.size_toArray, hbl]
  refine ⟨by omega, ?_⟩
  have hE33 := hE.keep f33 (by simp) (by simp)
  have hX : (s26 ++ ByteArray.mk bs.toArray).data.toList = tail1 t.length := by
    rw [ByteArray.data_append, Array.toList_append, hs26, hjz, tail1, hbs]
  have hXs : (s26 ++ ByteArray.mk bs.toArray).size ≤ 80 := by rw [ByteArray.size_append]; omega
  refine (hw1_spec hE33 c ((hst.keep f23 (by simp)).keep f33 (by simp)) (s26 ++ ByteArray.mk bs.toArray) (by omega)).mono ?_
  rintro e w41 ⟨rfl, sl', hE41, hne41, f41, s41⟩
  rw [hX, ← pad1_eq] at hE41
  have hebl : w.heap.size ≤ eb := heb
  have fE : Fr (fun _ => False) w w41 := (f23.trans' f33).trans f41 (fun q hq h => by
    rcases h with h | ⟨y, hy, h⟩
    · omega
    · rcases hE33.own with ⟨h1, _⟩ | ⟨h1, _⟩
      · rw [h1] at hy; cases hy
      · have := (h1.blk hy).1; omega)
  obtain ⟨r41, hr41, hblk41⟩ := hE41.blk
  have o41 : Own w41 w.heap.size T_uint32 sl' (uv (stt block1 start1 (pad t))) := by
    rcases hE41.own with ⟨h1, h2⟩ | ⟨h1, _⟩
    · rw [h1] at hne41; exact absurd rfl hne41
    · exact h1
  have hWl : (stt block1 start1 (pad t)).length = 5 := blocks_length (f := block1) (fun h p hl => by rw [block1_length]; exact hl) _ _ _ rfl
  refine ⟨rfl, sl', by rw [cell_blk hblk41]; rfl, ?_⟩
  have hsl' : sl'.len = 5 := by rw [o41.len, uv_len, hWl]
  have hdg : digest block1 start1 t = out (stt block1 start1 (pad t)) := rfl
  rw [hdg]
  generalize stt block1 start1 (pad t) = WS at o41 hWl
  refine ⟨fun l i w' => ∃ m : Nat, m ≤ 5 ∧ i = (m : Int) ∧ Own w' w41.heap.size T_uint8 l (byteV (out (WS.take m))) ∧ Fr (fun _ => False) w41 w', fun _ i _ => ((5 : Int) - i).toNat, ⟨0, by decide, rfl, Own.nil _ _ _, .refl _ _⟩, ?_⟩
  rintro l45 i w47 ⟨m, hm, rfl, o47, f47⟩
  have houtl : ∀ l : List ShaM.W, (out l).length = 4 * l.length := fun l => by
    induction l with
    | nil => rfl
    | cons x l ih => 
      show (outw x ++ out l).length = _
      rw [List.length_append, ih, List.length_cons]; simp only [outw, List.length_cons, List.length_nil]; omega
  refine ⟨fun hlt => ?_, fun hge => ?_⟩
  · have hlt := of_decide_eq_true hlt
    have hml : m < WS.length := by omega
    obtain ⟨y, hy, hc⟩ := own_get (o41.keep f47 (by simp)) (i := m) hml
    have e1 : IntKind.i64.wrap ((m : Int) + 1) = ((m + 1 : Nat) : Int) := by rw [wrap_i64 (by omega) (by omega)]; omega
    refine ⟨⟨by omega, by omega⟩, y, hy, _, by rw [Int.toNat_natCast, Nat.mul_one]; exact hc, by decide, by decide, by decide, ?_⟩
    rw [outw1_eq, e1]
    have hg : WS.getD m 0 = WS[m] := by rw [List.getD_eq_getElem?_getD, List.getElem?_eq_getElem hml]; rfl
    rw [hg]
    have htk : out (WS.take (m + 1)) = out (WS.take m) ++ outw WS[m] := by
      rw [List.take_succ_eq_append_getElem hml, out, List.flatMap_append]; simp [out]
    generalize WS[m] = x at htk
    intro w50 hw50
    have f50 : Fr (fun _ => False) w47 w50 := hw50 ▸ Fr.alloc _ _ _
    have hz50 := alloc_new w47 (.cells (byteV (outw x)).toArray T_uint8)
    rw [← hw50] at hz50
    have hrd : Reads w50 (some ⟨w47.heap.size, 0, none⟩) (byteV (outw x)) := fun i v hv => by
      refine ⟨_, rfl, ?_⟩
      rw [add_lit, cell_blk hz50, Nat.zero_add, ← hv]; simp
    have hl : (byteV (out (WS.take m))).length = 4 * m := by rw [List.length_map, houtl, List.length_take]; omega
    obtain ⟨w51, l52, hr51, o51, f51⟩ := append_all elByte (o47.keep f50 (by simp)) 4 hrd (byteV_one _) (by rw [hl]; simp [outw, maxLen]; omega) (by rw [hl]; simp [outw]; omega) (f47.trans' f50).size (m := 4) (by simp [outw])
    refine ⟨w51, l52, hr51, ⟨m + 1, by omega, rfl, ?_, (f47.trans' f50).trans f51 (fun q hq ⟨y, hy, e⟩ => by have := (o47.blk hy).1; omega)⟩, by dsimp only; omega⟩
    rw [htk, byteV, List.map_append]; exact o51
  · have hge := of_decide_eq_false hge
    have : m = 5 := by omega
    subst this
    rw [List.take_of_length_le (by omega)] at o47
    exact ⟨w47, _, bytes_str elByte.sl (by kernel_rfl) (by kernel_rfl) _ o47.reads (by rw [o47.len, List.length_map]), rfl, fE.trans' f47⟩
end Go.Proofs.YtoagdpjickippaaDoor
