/- What write and sum of the package sha do, by block1. Conditions: the texts are short enough for a slice to hold (2 to the 40th). -/
import Derived.Test.YtoagdpjickippaaDoorShaD0
import Derived.Test.YtoagdpjickippaaDoorShaP

set_option linter.unusedVariables false
namespace Go.Proofs.YtoagdpjickippaaDoor
open Go Vc ShaM Go.Proofs

/-- A sum that is added up: t has been written. -/
structure HashAt (w : World) (b lo : Nat) (sl : Sl) (T : TypeId) (f : List ShaM.W → List UInt8 → List ShaM.W) (st : List ShaM.W) (t : List UInt8) : Prop where
  lob : lo ≤ b
  blk : ∃ r : ByteArray, r.data.toList = rest t ∧ w.heap[b]? = some (.cells #[.slice sl.a sl.len sl.cap, .string r, .int .u64 (t.length : Int)] T)
  len : t.length ≤ 1099511627776
  ne : ∀ y, sl.a = some y → y.block ≠ b
  own : (sl = ⟨none, 0, 0⟩ ∧ t = []) ∨ (Own w lo T_uint32 sl (uv (stt f st t)) ∧ sl.a ≠ none)
theorem HashAt.keep {w w2 : World} {b lo : Nat} {sl : Sl} {T : TypeId} {f : List ShaM.W → List UInt8 → List ShaM.W} {st : List ShaM.W} {t : List UInt8} (h : HashAt w b lo sl T f st t) {X : Nat → Prop} (hf : Fr X w w2) (hb : ¬ X b) (hs : ∀ y, sl.a = some y → ¬ X y.block) : HashAt w2 b lo sl T f st t := by
  obtain ⟨r, h1, h2⟩ := h.blk
  refine ⟨h.lob, ⟨r, h1, hf.keep h2 hb⟩, h.len, h.ne, ?_⟩
  rcases h.own with h3 | ⟨h3, h4⟩
  · exact .inl h3
  · exact .inr ⟨h3.keep hf hs, h4⟩


theorem hw1_spec {w : World} {b lo : Nat} {sl : Sl} {T : TypeId} {t : List UInt8} (hh : HashAt w b lo sl T block1 start1 t) {a : Option Addr} (c : Nat) (hst : Reads w a (uv start1)) (x : ByteArray) (hx : t.length + x.size ≤ 1099511627776) :
    Calls Tryd.prog F_sha_hash_write #[.pointer (some ⟨b, 0, none⟩), .string x, .slice a 5 c, .func (.func F_sha_block1) #[] #[]] w fun e w' =>
      e = .returned (.tuple #[]) ∧ ∃ sl', HashAt w' b lo sl' T block1 start1 (t ++ x.data.toList) ∧ sl'.a ≠ none ∧ Fr (fun k => k = b ∨ Vc.At sl k) w w' ∧ Since w sl sl' := by
  refine vc_sha_hash_write_1_ok (R := fun v w' => v = .tuple #[] ∧ ∃ sl', HashAt w' b lo sl' T block1 start1 (t ++ x.data.toList) ∧ sl'.a ≠ none ∧ Fr (fun k => k = b ∨ Vc.At sl k) w w' ∧ Since w sl sl') ?_ (fun v w' h => ⟨by rw [h.1], h.2⟩)
  obtain ⟨r, hr, hblk⟩ := hh.blk
  have hbw := lt_blk hblk
  have hlo := hh.lob
  have hxl : x.data.toList.length = x.size := by simp
  have hstl : (stt block1 start1 t).length = 5 := blocks_length (f := block1) (fun h p hl => by rw [block1_length]; exact hl) _ _ _ rfl
  have hrs : r.size = t.length % 64 := by rw [← rest_length, ← hr]; simp
  refine ⟨fun w6 => ∃ sl1, w6.heap[b]? = some (.cells #[.slice sl1.a sl1.len sl1.cap, .string r, .int .u64 (t.length : Int)] T) ∧ Own w6 lo T_uint32 sl1 (uv (stt block1 start1 t)) ∧ (∀ y, sl1.a = some y → y.block ≠ b) ∧ Fr (fun k => k = b ∨ Vc.At sl k) w w6 ∧ Since w sl sl1, ⟨sl, by rw [cell_blk hblk]; rfl, fun hnone => ?_, fun hsome => ?_⟩, ?_⟩
  · rcases hh.own with ⟨rfl, rfl⟩ | ⟨_, hne⟩
    · obtain ⟨w3, l4, hr3, o3, f3, s3⟩ := append_all' elU32 (Own.nil w lo T_uint32) c hst (one_uv _) (by simp only [List.length_nil, uv_len]; decide) (by simp only [List.length_nil, uv_len]; decide) (by omega) (m := 5) rfl
      rw [List.nil_append] at o3
      have f3' : Fr (fun _ => False) w w3 := f3.mono fun k hk ⟨y, hy, _⟩ => by cases hy
      have hb3 := f3'.keep hblk (by simp)
      refine ⟨w3, l4, hr3, wr_blk hb3 (by simp), ?_⟩
      intro w5 hw5
      have hb5 := set_blk hb3 0 (.slice l4.a l4.len l4.cap)
      rw [← hw5] at hb5
      have f5 : Fr (· = b) w3 w5 := hw5 ▸ Fr.set (· = b) _ (a := ⟨b, 0, none⟩) _ rfl
      have hne4 : ∀ y, l4.a = some y → y.block ≠ b := fun y hy => by
        rcases s3 y hy with ⟨z, hz, _⟩ | hn
        · cases hz
        · omega
      exact ⟨l4, hb5, o3.keep f5 (fun y hy => hne4 y hy), hne4, (f3'.mono (by simp)).trans f5 (fun k hk h => .inl h), s3⟩
    · exfalso
      cases hsa : sl.a with
      | none => exact hne hsa
      | some y => rw [hsa] at hnone; cases hnone
  · rcases hh.own with ⟨rfl, rfl⟩ | ⟨ho, hne⟩
    · cases hsome
    · exact ⟨sl, hblk, ho, hh.ne, .refl _ _, .refl _ _⟩
  rintro w6 ⟨sl1, hb6, o6, hne1, f6, s6⟩
  refine ⟨_, by rw [cell_blk hb6]; rfl, wr_blk hb6 (by simp), ?_⟩
  intro w8 hw8
  have en : IntKind.u64.wrap ((t.length : Int) + IntKind.u64.wrap (x.size : Int)) = (((t ++ x.data.toList).length : Nat) : Int) := by
    rw [List.length_append, hxl, wrap_u64 (x := (x.size : Int)) (by omega) (by omega), wrap_u64 (by omega) (by omega)]; omega
  rw [en] at hw8
  have hb8 := set_blk hb6 2 (.int .u64 (((t ++ x.data.toList).length : Nat) : Int))
  rw [← hw8] at hb8
  have f8 : Fr (· = b) w6 w8 := hw8 ▸ Fr.set (· = b) _ (a := ⟨b, 2, none⟩) _ rfl
  refine ⟨r, by rw [cell_blk hb8]; rfl, by omega, ?_⟩
  have hX : ∀ k, k < w.heap.size → Vc.At sl1 k → (k = b ∨ Vc.At sl k) := fun k hk ⟨y, hy, e⟩ => by
    rcases s6 y hy with ⟨z, hz, hzb⟩ | hn
    · exact .inr ⟨z, hz, by omega⟩
    · omega
  obtain ⟨TT, hTT⟩ : ∃ TT, rest t ++ x.data.toList = TT := ⟨_, rfl⟩
  have hTl : TT.length = t.length % 64 + x.size := by rw [← hTT, List.length_append, rest_length, hxl]
  obtain ⟨q1, q2⟩ := step_all block1 start1 t x.data.toList
  rw [hTT] at q1 q2
  refine ⟨fun s w' => ∃ q : Nat, 64 * q ≤ TT.length ∧ s.data.toList = TT.drop (64 * q) ∧ w'.heap[b]? = some (.cells #[.slice sl1.a sl1.len sl1.cap, .string r, .int .u64 (((t ++ x.data.toList).length : Nat) : Int)] T) ∧ Own w' lo T_uint32 sl1 (uv (blocks block1 q (stt block1 start1 t) TT)) ∧ Fr (Vc.At sl1) w8 w',
    fun s _ => s.size, ⟨0, by omega, by rw [← hTT, ← hr]; simp, hb8, o6.keep f8 (fun y hy => hne1 y hy), .refl _ _⟩, ?_⟩
  rintro s w13 ⟨q, hq, hs, hb13, o13, f13⟩
  have hsz : s.size = TT.length - 64 * q := by
    have : s.data.toList.length = s.size := by simp
    rw [← this, hs, List.length_drop]
  refine ⟨fun hge => ?_, fun hlt => ?_⟩
  · have hge := of_decide_eq_true hge
    intro w14 d14
    refine ⟨fun w => w = w14, rfl, sl1, fun w hw => by rw [hw, d14.cell, cell_blk hb13]; rfl, ⟨by decide, by omega⟩, ?_⟩
    have hbl := blocks_length (f := block1) (fun h p hl => by rw [block1_length]; exact hl) q (stt block1 start1 t) TT hstl
    have hex : (s.extract 0 (Int.toNat 64)).data.toList = (TT.drop (64 * q)).take 64 := by
      rw [ext_toList, hs]; rfl
    refine (block1_spec (o13.drew d14) hbl (s.extract 0 (Int.toNat 64)) (by rw [ByteArray.size_extract]; show min 64 s.size - 0 = 64; omega)).mono ?_
    rintro e w19 ⟨rfl, o19, f19⟩
    rw [hex, ← blocks_step block1] at o19
    have hb19 : w19.heap[b]? = _ := f19.keep ((Fr.drew (fun _ => False) d14).keep hb13 (by simp)) (fun ⟨y, hy, e⟩ => hne1 y hy e.symm)
    refine ⟨rfl, ⟨by decide, by omega⟩, ⟨q + 1, by omega, ?_, hb19, o19, (f13.trans' (.drew _ d14)).trans' f19⟩, ?_⟩
    · rw [ext_toList, hs, List.take_of_length_le (by rw [List.length_drop, List.length_drop]; show _ ≤ s.size - 64; omega), List.drop_drop]
      congr 1
    · dsimp only
      rw [ByteArray.size_extract]
      show min s.size s.size - 64 < s.size
      omega
  · have hlt := of_decide_eq_false hlt
    have hq2 : q = TT.length / 64 := by omega
    subst hq2
    rw [q1] at o13
    rw [q2] at hs
    refine ⟨wr_blk hb13 (by simp), ?_⟩
    intro w20 hw20
    have hb20 := set_blk hb13 1 (.string s)
    rw [← hw20] at hb20
    have f20 : Fr (· = b) w13 w20 := hw20 ▸ Fr.set (· = b) _ (a := ⟨b, 1, none⟩) _ rfl
    have o20 := o13.keep f20 (fun y hy => hne1 y hy)
    have hstl2 : (stt block1 start1 (t ++ x.data.toList)).length = 5 := blocks_length (f := block1) (fun h p hl => by rw [block1_length]; exact hl) _ _ _ rfl
    refine ⟨rfl, sl1, ⟨hlo, ⟨s, hs, hb20⟩, by rw [List.length_append, hxl]; omega, hne1, .inr ⟨o20, fun hn => ?_⟩⟩, fun hn => ?_, ((f6.trans f8 (fun k hk h => .inl h)).trans f13 hX).trans f20 (fun k hk h => .inl h), s6⟩
    all_goals
      obtain ⟨y, hy, _⟩ := own_get o20 (i := 0) (by omega)
      rw [hn] at hy; cases hy
end Go.Proofs.YtoagdpjickippaaDoor
