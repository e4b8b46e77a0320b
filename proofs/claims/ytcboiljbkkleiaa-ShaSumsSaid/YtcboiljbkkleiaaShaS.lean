/- What Hash1, Hash256, Sum1 and Sum256 of the package sha do, and the law's own. Conditions: the texts are short enough for a slice to hold (2 to the 40th). -/
import Derived.Test.YtcboiljbkkleiaaShaR2
import Derived.Test.YtcboiljbkkleiaaShaF2
import Derived.Test.YtcboiljbkkleiaaLaw2
set_option linter.unusedVariables false
namespace Go.Proofs.Ytcboiljbkkleiaa
open Go Vc BitsM ShaM Go.Proofs

theorem start1_spec (w : World) : Calls Try.prog F_sha_start1 #[] w fun e w' => e = .returned (.slice (some ⟨w.heap.size, 0, none⟩) 5 5) ∧ Own w' w.heap.size T_uint32 ⟨some ⟨w.heap.size, 0, none⟩, 5, 5⟩ (uv start1) ∧ Fr (fun _ => False) w w' := by
  refine vc_sha_start1_ok (R := fun v w' => v = .slice (some ⟨w.heap.size, 0, none⟩) 5 5 ∧ Own w' w.heap.size T_uint32 ⟨some ⟨w.heap.size, 0, none⟩, 5, 5⟩ (uv start1) ∧ Fr (fun _ => False) w w') ?_ (fun v w' h => ⟨by rw [h.1], h.2⟩)
  intro w1 hw1
  exact ⟨rfl, ⟨rfl, .inr ⟨w.heap.size, _, rfl, Nat.le_refl _, hw1 ▸ alloc_new _ _, Nat.le_refl _, by simp [maxLen], rfl, rfl⟩⟩, hw1 ▸ Fr.alloc _ _ _⟩
theorem start256_spec (w : World) : Calls Try.prog F_sha_start256 #[] w fun e w' => e = .returned (.slice (some ⟨w.heap.size, 0, none⟩) 8 8) ∧ Own w' w.heap.size T_uint32 ⟨some ⟨w.heap.size, 0, none⟩, 8, 8⟩ (uv start2) ∧ Fr (fun _ => False) w w' := by
  refine vc_sha_start256_ok (R := fun v w' => v = .slice (some ⟨w.heap.size, 0, none⟩) 8 8 ∧ Own w' w.heap.size T_uint32 ⟨some ⟨w.heap.size, 0, none⟩, 8, 8⟩ (uv start2) ∧ Fr (fun _ => False) w w') ?_ (fun v w' h => ⟨by rw [h.1], h.2⟩)
  intro w1 hw1
  exact ⟨rfl, ⟨rfl, .inr ⟨w.heap.size, _, rfl, Nat.le_refl _, hw1 ▸ alloc_new _ _, Nat.le_refl _, by simp [maxLen], rfl, rfl⟩⟩, hw1 ▸ Fr.alloc _ _ _⟩

theorem HashAt.zero {w w' : World} {T : TypeId} (f : List ShaM.W → List UInt8 → List ShaM.W) (st : List ShaM.W) (h : w' = w.alloc (.cells #[.slice none 0 0, .string ⟨#[]⟩, .int .u64 0] T)) : HashAt w' w.heap.size w.heap.size ⟨none, 0, 0⟩ T f st [] :=
  ⟨Nat.le_refl _, ⟨⟨#[]⟩, rfl, by rw [h]; exact alloc_new _ _⟩, Nat.zero_le _, (fun y hy => by cases hy), .inl ⟨rfl, rfl⟩⟩
section
variable {w : World} {b lo : Nat} {sl : Sl} {T : TypeId} {t : List UInt8}
theorem since_back {w w1 : World} {sl sl' : Sl} (f : Fr (fun _ => False) w w1) (h : Since w1 sl sl') : Since w sl sl' := fun y hy => by
  rcases h y hy with h | h
  · exact .inl h
  · exact .inr (by have := f.size; omega)
theorem h1write_spec (hh : HashAt w b lo sl T block1 start1 t) (x : ByteArray) (hx : t.length + x.size ≤ 1099511627776) :
    Calls Try.prog F_sha_Hash1_Write #[.pointer (some ⟨b, 0, none⟩), .string x] w fun e w' =>
      e = .returned (.tuple #[]) ∧ ∃ sl', HashAt w' b lo sl' T block1 start1 (t ++ x.data.toList) ∧ Fr (fun k => k = b ∨ Vc.At sl k) w w' ∧ Since w sl sl' := by
  refine vc_sha_Hash1_Write_ok (R := fun v w' => v = .tuple #[] ∧ ∃ sl', HashAt w' b lo sl' T block1 start1 (t ++ x.data.toList) ∧ Fr (fun k => k = b ∨ Vc.At sl k) w w' ∧ Since w sl sl') ?_ (fun v w' h => ⟨by rw [h.1], h.2⟩)
  intro w1 d1
  refine ⟨fun _ => True, trivial, (start1_spec w1).mono ?_⟩
  rintro e w4 ⟨rfl, o4, f4⟩
  have f14 : Fr (fun _ => False) w w4 := (Fr.drew _ d1).trans' f4
  refine ⟨⟨_, 5, 5⟩, rfl, trivial, ?_⟩
  refine (hw1_spec (hh.keep f14 (by simp) (by simp)) 5 o4.reads x hx).mono ?_
  rintro e w7 ⟨rfl, sl', h7, _, f7, s7⟩
  exact ⟨rfl, rfl, sl', h7, (f14.mono (by simp)).trans f7 (fun k _ h => h), since_back f14 s7⟩
theorem h256write_spec (hh : HashAt w b lo sl T (block2 K256) start2 t) (x : ByteArray) (hx : t.length + x.size ≤ 1099511627776) :
    Calls Try.prog F_sha_Hash256_Write #[.pointer (some ⟨b, 0, none⟩), .string x] w fun e w' =>
      e = .returned (.tuple #[]) ∧ ∃ sl', HashAt w' b lo sl' T (block2 K256) start2 (t ++ x.data.toList) ∧ Fr (fun k => k = b ∨ Vc.At sl k) w w' ∧ Since w sl sl' := by
  refine vc_sha_Hash256_Write_ok (R := fun v w' => v = .tuple #[] ∧ ∃ sl', HashAt w' b lo sl' T (block2 K256) start2 (t ++ x.data.toList) ∧ Fr (fun k => k = b ∨ Vc.At sl k) w w' ∧ Since w sl sl') ?_ (fun v w' h => ⟨by rw [h.1], h.2⟩)
  intro w1 d1
  refine ⟨fun _ => True, trivial, (start256_spec w1).mono ?_⟩
  rintro e w4 ⟨rfl, o4, f4⟩
  have f14 : Fr (fun _ => False) w w4 := (Fr.drew _ d1).trans' f4
  refine ⟨⟨_, 8, 8⟩, rfl, trivial, ?_⟩
  refine (hw256_spec (hh.keep f14 (by simp) (by simp)) 8 o4.reads x hx).mono ?_
  rintro e w7 ⟨rfl, sl', h7, _, f7, s7⟩
  exact ⟨rfl, rfl, sl', h7, (f14.mono (by simp)).trans f7 (fun k _ h => h), since_back f14 s7⟩
theorem h1sum_spec (hh : HashAt w b lo sl T block1 start1 t) (hx : t.length + 200 ≤ 1099511627776) :
    Calls Try.prog F_sha_Hash1_Sum #[.pointer (some ⟨b, 0, none⟩)] w fun e w' => e = .returned (.string ⟨(digest block1 start1 t).toArray⟩) ∧ Fr (fun _ => False) w w' := by
  refine vc_sha_Hash1_Sum_ok (R := fun v w' => v = .string ⟨(digest block1 start1 t).toArray⟩ ∧ Fr (fun _ => False) w w') ?_ (fun v w' h => ⟨by rw [h.1], h.2⟩)
  intro w1 d1
  refine ⟨fun _ => True, trivial, (start1_spec w1).mono ?_⟩
  rintro e w4 ⟨rfl, o4, f4⟩
  have f14 : Fr (fun _ => False) w w4 := (Fr.drew _ d1).trans' f4
  refine ⟨⟨_, 5, 5⟩, rfl, trivial, ?_⟩
  refine (hs1_spec (hh.keep f14 (by simp) (by simp)) 5 o4.reads hx).mono ?_
  rintro e w7 ⟨rfl, f7⟩
  exact ⟨_, rfl, trivial, rfl, f14.trans' f7⟩
theorem h256sum_spec (hh : HashAt w b lo sl T (block2 K256) start2 t) (hx : t.length + 200 ≤ 1099511627776) :
    Calls Try.prog F_sha_Hash256_Sum #[.pointer (some ⟨b, 0, none⟩)] w fun e w' => e = .returned (.string ⟨(digest (block2 K256) start2 t).toArray⟩) ∧ Fr (fun _ => False) w w' := by
  refine vc_sha_Hash256_Sum_ok (R := fun v w' => v = .string ⟨(digest (block2 K256) start2 t).toArray⟩ ∧ Fr (fun _ => False) w w') ?_ (fun v w' h => ⟨by rw [h.1], h.2⟩)
  intro w1 d1
  refine ⟨fun _ => True, trivial, (start256_spec w1).mono ?_⟩
  rintro e w4 ⟨rfl, o4, f4⟩
  have f14 : Fr (fun _ => False) w w4 := (Fr.drew _ d1).trans' f4
  refine ⟨⟨_, 8, 8⟩, rfl, trivial, ?_⟩
  refine (hs256_spec (hh.keep f14 (by simp) (by simp)) 8 o4.reads hx).mono ?_
  rintro e w7 ⟨rfl, f7⟩
  exact ⟨_, rfl, trivial, rfl, f14.trans' f7⟩
end
theorem sum1_spec (x : ByteArray) (hx : x.size + 200 ≤ 1099511627776) (w : World) : Calls Try.prog F_sha_Sum1 #[.string x] w fun e w' => e = .returned (.string ⟨(digest block1 start1 x.data.toList).toArray⟩) ∧ Fr (fun _ => False) w w' := by
  refine vc_sha_Sum1_ok (R := fun v w' => v = .string ⟨(digest block1 start1 x.data.toList).toArray⟩ ∧ Fr (fun _ => False) w w') ?_ (fun v w' h => ⟨by rw [h.1], h.2⟩)
  intro w1 hw1
  have f1 : Fr (fun _ => False) w w1 := hw1 ▸ Fr.alloc _ _ _
  have h1 := HashAt.zero (T := T_sha_Hash1) block1 start1 hw1
  refine (h1write_spec h1 x (by simp; omega)).mono ?_
  rintro e w3 ⟨rfl, sl', h3, f3, _⟩
  refine ⟨rfl, (h1sum_spec h3 (by simp; omega)).mono ?_⟩
  rintro e w5 ⟨rfl, f5⟩
  refine ⟨_, rfl, rfl, (f1.trans f3 (fun k hk h => ?_)).trans' f5⟩
  rcases h with h | ⟨y, hy, _⟩
  · omega
  · cases hy
theorem sum256_spec (x : ByteArray) (hx : x.size + 200 ≤ 1099511627776) (w : World) : Calls Try.prog F_sha_Sum256 #[.string x] w fun e w' => e = .returned (.string ⟨(digest (block2 K256) start2 x.data.toList).toArray⟩) ∧ Fr (fun _ => False) w w' := by
  refine vc_sha_Sum256_ok (R := fun v w' => v = .string ⟨(digest (block2 K256) start2 x.data.toList).toArray⟩ ∧ Fr (fun _ => False) w w') ?_ (fun v w' h => ⟨by rw [h.1], h.2⟩)
  intro w1 hw1
  have f1 : Fr (fun _ => False) w w1 := hw1 ▸ Fr.alloc _ _ _
  have h1 := HashAt.zero (T := T_sha_Hash256) (block2 K256) start2 hw1
  refine (h256write_spec h1 x (by simp; omega)).mono ?_
  rintro e w3 ⟨rfl, sl', h3, f3, _⟩
  refine ⟨rfl, (h256sum_spec h3 (by simp; omega)).mono ?_⟩
  rintro e w5 ⟨rfl, f5⟩
  refine ⟨_, rfl, rfl, (f1.trans f3 (fun k hk h => ?_)).trans' f5⟩
  rcases h with h | ⟨y, hy, _⟩
  · omega
  · cases hy

/-- The signs of a byte, as 'Hex' writes them. -/
def hexT : List UInt8 := [48, 49, 50, 51, 52, 53, 54, 55, 56, 57, 97, 98, 99, 100, 101, 102]
def hex2 (b : UInt8) : List UInt8 := [hexT.getD (b.toNat / 16) 0, hexT.getD (b.toNat % 16) 0]
theorem hex_cut (i : Nat) (h : i < 16) : (ByteArray.extract (ByteArray.mk (Array.mk [48, 49, 50, 51, 52, 53, 54, 55, 56, 57, 97, 98, 99, 100, 101, 102])) i (i + 1)).data.toList = [hexT.getD i 0] := by
  rw [show ByteArray.extract (ByteArray.mk (Array.mk [48, 49, 50, 51, 52, 53, 54, 55, 56, 57, 97, 98, 99, 100, 101, 102])) i (i + 1) = ByteArray.extract ⟨hexT.toArray⟩ i (i + 1) from rfl, ext_toList]
  have hl : i < hexT.length := h
  rw [Nat.add_sub_cancel_left]
  show ((hexT.toArray.toList.drop i).take 1) = _
  have g1 : List.drop i hexT = hexT[i] :: List.drop (i + 1) hexT := List.drop_eq_getElem_cons hl
  have g2 : hexT.getD i 0 = hexT[i] := by rw [List.getD_eq_getElem?_getD, List.getElem?_eq_getElem hl]; rfl
  rw [g2]
  show (List.drop i hexT).take 1 = _
  rw [g1]; rfl
theorem hex_spec (x : ByteArray) (hx : x.size ≤ 1099511627776) (w : World) : Calls Try.prog F_cartularyref01_Hex #[.string x] w fun e w' => e = .returned (.string ⟨(x.data.toList.flatMap hex2).toArray⟩) ∧ Drew w w' := by
  refine vc_cartularyref01_Hex_ok (R := fun v w' => v = .string ⟨(x.data.toList.flatMap hex2).toArray⟩ ∧ Drew w w') ?_ (fun v w' h => ⟨by rw [h.1], h.2⟩)
  obtain ⟨X, hX⟩ : ∃ X, x.data.toList = X := ⟨_, rfl⟩
  have hXl : X.length = x.size := by rw [← hX]; simp
  rw [hX]
  have hlen : ∀ l : List UInt8, (l.flatMap hex2).length = 2 * l.length := fun l => by
    induction l with
    | nil => rfl
    | cons b l ih => rw [List.flatMap_cons, List.length_append, ih, List.length_cons]; show 2 + _ = _; omega
  refine ⟨fun s i w' => ∃ k : Nat, k ≤ X.length ∧ i = (k : Int) ∧ s.data.toList = (X.take k).flatMap hex2 ∧ Drew w w', fun _ i _ => ((X.length : Int) - i).toNat, ⟨0, Nat.zero_le _, rfl, rfl, .refl _⟩, ?_⟩
  rintro s i w5 ⟨k, hk, rfl, hs, d5⟩
  refine ⟨fun hlt => ?_, fun hge => ?_⟩
  · have hlt := of_decide_eq_true hlt
    have hkl : k < X.length := by omega
    have hb : byt x k = X[k].toNat := by
      unfold byt; rw [hX, List.getElem?_eq_getElem hkl]; rfl
    have hb256 := X[k].toNat_lt
    have e1 : IntKind.i64.wrap ((k : Int) + 1) = ((k + 1 : Nat) : Int) := by rw [wrap_i64 (by omega) (by omega)]; omega
    have htk : X.take (k + 1) = X.take k ++ [X[k]] := List.take_succ_eq_append_getElem hkl
    rw [byteAt_nat, hb, e1]
    generalize X[k] = b at hb256 htk
    have d1 : IntKind.u8.wrap (Int.tdiv (b.toNat : Int) 16) = ((b.toNat / 16 : Nat) : Int) := by rw [Int.tdiv_eq_ediv_of_nonneg (by omega), wrap_u8 (by omega) (by omega)]; omega
    have d2 : Int.tmod (b.toNat : Int) 16 = ((b.toNat % 16 : Nat) : Int) := by rw [Int.tmod_eq_emod_of_nonneg (by omega)]; omega
    have d3 : IntKind.u8.wrap (((b.toNat / 16 : Nat) : Int) + 1) = ((b.toNat / 16 + 1 : Nat) : Int) := by rw [wrap_u8 (by omega) (by omega)]; omega
    have d4 : IntKind.u8.wrap (((b.toNat % 16 : Nat) : Int) + 1) = ((b.toNat % 16 + 1 : Nat) : Int) := by rw [wrap_u8 (by omega) (by omega)]; omega
    rw [d1, d2, d3, d4]
    simp only [Int.toNat_natCast]
    have h16 : ((ByteArray.size (ByteArray.mk (Array.mk [48, 49, 50, 51, 52, 53, 54, 55, 56, 57, 97, 98, 99, 100, 101, 102])) : Nat) : Int) = 16 := rfl
    have c1 := hex_cut (b.toNat / 16) (by omega)
    have c2 := hex_cut (b.toNat % 16) (by omega)
    rw [h16]
    have szl : ∀ A : ByteArray, A.data.toList.length = A.size := fun A => by simp
    have z1 : (ByteArray.extract (ByteArray.mk (Array.mk [48, 49, 50, 51, 52, 53, 54, 55, 56, 57, 97, 98, 99, 100, 101, 102])) (b.toNat / 16) (b.toNat / 16 + 1)).size = 1 := by
      rw [← szl, c1]; rfl
    have z2 : (ByteArray.extract (ByteArray.mk (Array.mk [48, 49, 50, 51, 52, 53, 54, 55, 56, 57, 97, 98, 99, 100, 101, 102])) (b.toNat % 16) (b.toNat % 16 + 1)).size = 1 := by
      rw [← szl, c2]; rfl
    have hsl : s.size = 2 * k := by
      have := congrArg List.length hs
      rw [hlen, List.length_take] at this
      have h2 : s.data.toList.length = s.size := by simp
      omega
    generalize ByteArray.extract (ByteArray.mk (Array.mk [48, 49, 50, 51, 52, 53, 54, 55, 56, 57, 97, 98, 99, 100, 101, 102])) (b.toNat / 16) (b.toNat / 16 + 1) = A1 at c1 z1 ⊢
    generalize ByteArray.extract (ByteArray.mk (Array.mk [48, 49, 50, 51, 52, 53, 54, 55, 56, 57, 97, 98, 99, 100, 101, 102])) (b.toNat % 16) (b.toNat % 16 + 1) = A2 at c2 z2 ⊢
    refine ⟨⟨by omega, by omega⟩, by decide, by decide, ⟨by omega, by omega, by omega⟩, by decide, by decide, ⟨by omega, by omega, by omega⟩, by omega, by rw [ByteArray.size_append]; omega, fun w6 d6 => ⟨⟨k + 1, by omega, rfl, ?_, d5.trans d6⟩, by omega⟩⟩
    rw [ByteArray.data_append, Array.toList_append, ByteArray.data_append, Array.toList_append, hs, c1, c2, htk, List.flatMap_append]
    simp [hex2]
  · have hge := of_decide_eq_false hge
    have : k = X.length := by omega
    subst this
    rw [List.take_length] at hs
    refine ⟨?_, d5⟩
    rw [← hs]
theorem dig1_len (t : List UInt8) : (digest block1 start1 t).length = 20 := by
  have hl : (stt block1 start1 (pad t)).length = 5 := blocks_length (f := block1) (fun h p hl => by rw [block1_length]; exact hl) _ _ _ rfl
  unfold digest
  match stt block1 start1 (pad t), hl with
  | [a, b, c, d, e], _ => rfl
theorem dig2_len (K : List ShaM.W) (t : List UInt8) : (digest (block2 K) start2 t).length = 32 := by
  have hl : (stt (block2 K) start2 (pad t)).length = 8 := blocks_length (f := block2 K) (fun h p hl => by rw [block2_length]; exact hl) _ _ _ rfl
  unfold digest
  match stt (block2 K) start2 (pad t), hl with
  | [a, b, c, d, e, f, g, h], _ => rfl
set_option maxRecDepth 100000 in
theorem abc1 : (digest block1 start1 [97, 98, 99]).flatMap hex2 = [97, 57, 57, 57, 51, 101, 51, 54, 52, 55, 48, 54, 56, 49, 54, 97, 98, 97, 51, 101, 50, 53, 55, 49, 55, 56, 53, 48, 99, 50, 54, 99, 57, 99, 100, 48, 100, 56, 57, 100] := by decide +kernel
set_option maxRecDepth 100000 in
theorem abc2 : (digest (block2 K256) start2 [97, 98, 99]).flatMap hex2 = [98, 97, 55, 56, 49, 54, 98, 102, 56, 102, 48, 49, 99, 102, 101, 97, 52, 49, 52, 49, 52, 48, 100, 101, 53, 100, 97, 101, 50, 50, 50, 51, 98, 48, 48, 51, 54, 49, 97, 51, 57, 54, 49, 55, 55, 97, 57, 99, 98, 52, 49, 48, 102, 102, 54, 49, 102, 50, 48, 48, 49, 53, 97, 100] := by decide +kernel
set_option maxRecDepth 100000 in
theorem awake2_spec (w : World) : Calls Try.prog F_cartularylaw02_awake #[] w fun e w' => e = .returned (.bool true) ∧ Fr (fun _ => False) w w' := by
  refine vc_cartularylaw02_awake_ok (R := fun v w' => v = .bool true ∧ Fr (fun _ => False) w w') ?_ (fun v w' h => ⟨by rw [h.1], h.2⟩)
  have e0 : (ByteArray.mk (Array.mk [(97 : UInt8), (98 : UInt8), (99 : UInt8)])).data.toList = [97, 98, 99] := rfl
  have s1 := fun w => sum1_spec (ByteArray.mk (Array.mk [(97 : UInt8), (98 : UInt8), (99 : UInt8)])) (by decide) w
  have s2 := fun w => sum256_spec (ByteArray.mk (Array.mk [(97 : UInt8), (98 : UInt8), (99 : UInt8)])) (by decide) w
  have a1 := abc1
  have a2 := abc2
  have l1 := dig1_len [97, 98, 99]
  have l2 := dig2_len K256 [97, 98, 99]
  rw [e0] at s1 s2
  generalize digest block1 start1 [97, 98, 99] = D1 at s1 a1 l1
  generalize digest (block2 K256) start2 [97, 98, 99] = D2 at s2 a2 l2
  refine (s1 w).mono ?_
  rintro e w2 ⟨rfl, f2⟩
  refine ⟨_, rfl, ?_⟩
  refine (hex_spec _ (by show D1.toArray.size ≤ _; rw [List.size_toArray, l1]; decide) w2).mono ?_
  rintro e w5 ⟨rfl, d5⟩
  refine ⟨_, rfl, ?_⟩
  have h1 : (ByteArray.mk ((ByteArray.mk D1.toArray).data.toList.flatMap hex2).toArray) = ByteArray.mk (Array.mk [97, 57, 57, 57, 51, 101, 51, 54, 52, 55, 48, 54, 56, 49, 54, 97, 98, 97, 51, 101, 50, 53, 55, 49, 55, 56, 53, 48, 99, 50, 54, 99, 57, 99, 100, 48, 100, 56, 57, 100]) := congrArg (fun l => ByteArray.mk (Array.mk l)) a1
  rw [h1]
  refine ⟨fun _ => ?_, fun h => by rw [beq_self_eq_true] at h; cases h⟩
  refine (s2 w5).mono ?_
  rintro e w8 ⟨rfl, f8⟩
  refine ⟨_, rfl, ?_⟩
  refine (hex_spec _ (by show D2.toArray.size ≤ _; rw [List.size_toArray, l2]; decide) w8).mono ?_
  rintro e w11 ⟨rfl, d11⟩
  have h2 : (ByteArray.mk ((ByteArray.mk D2.toArray).data.toList.flatMap hex2).toArray) = ByteArray.mk (Array.mk [98, 97, 55, 56, 49, 54, 98, 102, 56, 102, 48, 49, 99, 102, 101, 97, 52, 49, 52, 49, 52, 48, 100, 101, 53, 100, 97, 101, 50, 50, 50, 51, 98, 48, 48, 51, 54, 49, 97, 51, 57, 54, 49, 55, 55, 97, 57, 99, 98, 52, 49, 48, 102, 102, 54, 49, 102, 50, 48, 48, 49, 53, 97, 100]) := congrArg (fun l => ByteArray.mk (Array.mk l)) a2
  refine ⟨_, rfl, ?_, ((f2.trans' (.drew _ d5)).trans' f8).trans' (.drew _ d11)⟩
  rw [h2, beq_self_eq_true]
end Go.Proofs.Ytcboiljbkkleiaa
