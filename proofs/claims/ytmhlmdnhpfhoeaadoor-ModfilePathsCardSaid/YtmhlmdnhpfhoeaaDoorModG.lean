/- strings.Split at a slash, strings.Contains of a byte; is a text a module's path. Conditions: as named. -/
import Derived.Test.YtmhlmdnhpfhoeaaDoorModB
import Derived.Test.YtmhlmdnhpfhoeaaDoorModP
import Derived.Test.YtmhlmdnhpfhoeaaDoorStr1
import Derived.Test.YtmhlmdnhpfhoeaaDoorStr2
import Derived.Test.YtmhlmdnhpfhoeaaDoorStr3
import Derived.Test.YtmhlmdnhpfhoeaaDoorLaysP
import Derived.Test.YtmhlmdnhpfhoeaaDoorStrA
import Derived.Test.YtmhlmdnhpfhoeaaDoorHexF
import Derived.Test.YtmhlmdnhpfhoeaaDoorVcOz
import Derived.Shelf.Strings.SplitCore
import Derived.Shelf.Strings.Count
import Derived.Lib.SplitLaws
set_option linter.unusedVariables false
namespace Go.Proofs.YtmhlmdnhpfhoeaaDoor
open Go Vc Go.Proofs

theorem strIndex1_spec (s : ByteArray) (c : Nat) (hc : c < 256) (w : World) : Calls Tryd.prog F_strings_Index #[.string s, .string ⟨#[UInt8.ofNat c]⟩] w fun e w' => e = .returned (.int .i64 (Lib.indexByte s.data.toList (UInt8.ofNat c))) ∧ w' = w := by
  refine vc_strings_Index_ok (R := fun v w' => v = .int .i64 (Lib.indexByte s.data.toList (UInt8.ofNat c)) ∧ w' = w) ?_ (fun v w' h => ⟨by rw [h.1], h.2⟩)
  refine (index1_spec s c hc w).mono ?_
  rintro e w2 ⟨rfl, rfl⟩
  exact ⟨_, rfl, rfl, rfl⟩
theorem contains1_spec (s : ByteArray) (c : Nat) (hc : c < 256) (w : World) : Calls Tryd.prog F_strings_Contains #[.string s, .string ⟨#[UInt8.ofNat c]⟩] w fun e w' => e = .returned (.bool (s.data.toList.contains (UInt8.ofNat c))) ∧ w' = w := by
  refine vc_strings_Contains_ok (R := fun v w' => v = .bool (s.data.toList.contains (UInt8.ofNat c)) ∧ w' = w) ?_ (fun v w' h => ⟨by rw [h.1], h.2⟩)
  refine (strIndex1_spec s c hc w).mono ?_
  rintro e w2 ⟨rfl, rfl⟩
  refine ⟨_, rfl, ?_, rfl⟩
  congr 1
  rw [Bool.eq_iff_iff, decide_eq_true_eq, List.contains_iff_mem]
  rcases fnd_cases s (UInt8.ofNat c) with ⟨h1, h2⟩ | ⟨i, h1, h2, h3, _⟩
  · rw [h1]
    refine ⟨fun h => absurd h (by decide), fun h => ?_⟩
    obtain ⟨k, hk, he⟩ := List.getElem_of_mem h
    rw [bs_len] at hk
    exact absurd (by rw [bs_byt hk, he]) (h2 k hk)
  · rw [h1]
    refine ⟨fun _ => ?_, fun _ => by omega⟩
    have := bs_get h2
    rw [h3, UInt8.ofNat_toNat] at this
    exact List.mem_of_getElem? this
theorem splitK_parts : ∀ (k : Nat) (l : List UInt8), l.count 47 = k → Lib.splitK [47] 0 k l = partsL l
  | 0, l, h => by
    rw [partsL_plain l (List.count_eq_zero.1 h)]; rfl
  | k + 1, l, h => by
    unfold Lib.splitK
    rw [Lib.index_one]
    have hm : (47 : UInt8) ∈ l := List.count_pos_iff.1 (by omega)
    by_cases hi : Lib.indexByte l 47 = -1
    · obtain ⟨j, hj, he⟩ := List.getElem_of_mem hm
      exact absurd (by rw [List.getElem?_eq_getElem hj, he]) (Lib.indexByte_none hi j)
    · rw [if_neg (by simpa using hi)]
      have hg := Lib.indexByte_ge l 47
      obtain ⟨i, hie⟩ := Int.eq_ofNat_of_zero_le (show 0 ≤ Lib.indexByte l 47 by omega)
      obtain ⟨h1, h2⟩ := Lib.indexByte_some hie
      rw [hie]
      obtain ⟨hl, h47⟩ := List.getElem?_eq_some_iff.1 h1
      have hsp : l = l.take i ++ 47 :: l.drop (i + 1) := by
        conv => lhs; rw [← List.take_append_drop i l]
        rw [List.drop_eq_getElem_cons hl, h47]
      have hno : (47 : UInt8) ∉ l.take i := fun hm => by
        obtain ⟨j, hj, he⟩ := List.getElem_of_mem hm
        rw [List.length_take] at hj
        rw [List.getElem_take] at he
        exact h2 j (by omega) (by rw [List.getElem?_eq_getElem (by omega), he])
      have hcnt : (l.drop (i + 1)).count 47 = k := by
        rw [hsp, List.count_append, List.count_eq_zero.2 hno, List.count_cons_self] at h
        omega
      conv => rhs; rw [hsp]
      rw [partsL_cut _ _ hno]
      show l.take (Int.toNat (i : Int) + 0) :: Lib.splitK [47] 0 k (l.drop (Int.toNat (i : Int) + 1)) = _
      rw [Int.toNat_natCast, Nat.add_zero, splitK_parts k _ hcnt]
theorem split_parts (s : ByteArray) : Lib.splitB ⟨#[47]⟩ 0 (Lib.countB s ⟨#[47]⟩) s = bsm (partsL s.data.toList) := by
  have h := Lib.splitB_data ⟨#[47]⟩ 0 (Lib.countB s ⟨#[47]⟩) s
  have hc : Lib.countB s ⟨#[47]⟩ = s.data.toList.count 47 := by
    show Lib.count s.data.toList [47] = _
    exact Lib.count_one _ _
  rw [show (⟨#[47]⟩ : ByteArray).data.toList = [47] from rfl, splitK_parts _ _ hc.symm] at h
  unfold bsm
  rw [← h, List.map_map]
  conv => lhs; rw [← List.map_id (Lib.splitB _ _ _ _)]
  exact List.map_congr_left fun x _ => (bs_self x).symm
theorem split_spec (s : ByteArray) (hs : s.size ≤ 4000000) (w : World) : Calls Tryd.prog F_strings_Split #[.string s, .string ⟨#[47]⟩] w fun e w' =>
    ∃ l : Sl, e = .returned (.slice l.a l.len l.cap) ∧ Vc.Own w' w.heap.size T_string l (strV (bsm (partsL s.data.toList))) ∧ Fr (fun _ => False) w w' := by
  refine vc_strings_Split_ok (R := fun v w' => ∃ l : Sl, v = .slice l.a l.len l.cap ∧ Vc.Own w' w.heap.size T_string l (strV (bsm (partsL s.data.toList))) ∧ Fr (fun _ => False) w w') ?_ (fun v w' ⟨l, h⟩ => ⟨l, by rw [h.1], h.2⟩)
  have hle := Lib.countB_le ⟨#[47]⟩ (by decide) s.size s (Nat.le_refl _)
  have hlen := Lib.splitB_all ⟨#[47]⟩ (by decide) 0 _ s rfl
  have c := Any.strings_genSplit_core lays221 (by kernel_rfl) s ⟨#[47]⟩ 0 (-1) (Lib.countB s ⟨#[47]⟩ + 1) w (by omega) (by decide) (Nat.zero_le _)
    (fun x c hx => (strIndex1_spec x 47 (by decide) _).mono fun e w' ⟨h1, h2⟩ => ⟨by rw [h1]; show _ = Ending.returned (.int .i64 (Lib.index x.data.toList [47])); rw [Lib.index_one]; rfl, h2⟩)
    ((Any.strings_Count_one lays138 s 47 w).mono fun e w' ⟨h1, h2⟩ => ⟨by
      rw [h1]
      show _ = Ending.returned (Value.int .i64 ((Lib.count s.data.toList [47] : Nat) : Int))
      rw [Lib.count_one]; rfl, h2⟩) (by decide) (by decide) (by rw [if_pos (by decide)]; omega)
  rw [Nat.add_sub_cancel, hlen] at c
  have e2 : Lib.cellsOf (Lib.splitB ⟨#[47]⟩ 0 (Lib.countB s ⟨#[47]⟩) s) (Lib.countB s ⟨#[47]⟩ + 1) = ((Lib.splitB ⟨#[47]⟩ 0 (Lib.countB s ⟨#[47]⟩) s).map Value.string).toArray := by rw [← hlen]; exact Lib.cellsOf_full _
  rw [e2] at c
  refine c.mono ?_
  rintro e w' ⟨rfl, rfl⟩
  rw [split_parts] at hlen ⊢
  refine ⟨⟨some ⟨w.heap.size, 0, none⟩, Lib.countB s ⟨#[47]⟩ + 1, Lib.countB s ⟨#[47]⟩ + 1⟩, rfl, ⟨_, rfl, ⟨by rw [strV, List.length_map]; exact hlen, .inr ⟨w.heap.size, _, rfl, Nat.le_refl _, alloc_new _ _, Nat.le_refl _, by unfold maxLen; simp only; omega, by simp [hlen], ?_⟩⟩, .alloc _ _ _⟩⟩
  simp only
  rw [← hlen]
  exact List.take_of_length_le (by simp)
structure SmL (w : World) (c : Nat) (bb : Bool) (w' : World) : Prop where
  same : w' = w
  low : bb = true ↔ (97 ≤ c ∧ c ≤ 122 ∨ 48 ≤ c ∧ c ≤ 57 ∨ c = 45 ∨ c = 46)
theorem okC_at (f : Bool) (c : Nat) (hc : c < 256) : okC f (UInt8.ofNat c) = true ↔ ((97 ≤ c ∧ c ≤ 122 ∨ 48 ≤ c ∧ c ≤ 57 ∨ c = 45 ∨ c = 46) ∨ f = false ∧ (65 ≤ c ∧ c ≤ 90 ∨ c = 95 ∨ c = 126)) := by
  have key : ∀ (n : Fin 256) (f : Bool), okC f (UInt8.ofNat n) = true ↔ ((97 ≤ n.val ∧ n.val ≤ 122 ∨ 48 ≤ n.val ∧ n.val ≤ 57 ∨ n.val = 45 ∨ n.val = 46) ∨ f = false ∧ (65 ≤ n.val ∧ n.val ≤ 90 ∨ n.val = 95 ∨ n.val = 126)) := by
    decide +kernel
  exact key ⟨c, hc⟩ f
theorem path_spec (s : ByteArray) (w : World) : Calls Tryd.prog F_modfile_Path #[.string s] w fun e w' => e = .returned (.bool (pathB s)) ∧ Fr (fun _ => False) w w' := by
  refine vc_modfile_Path_ok (R := fun v w' => v = .bool (pathB s) ∧ Fr (fun _ => False) w w') ?_ (fun v w' h => ⟨by rw [h.1], h.2⟩)
  refine ⟨fun hbig => ⟨?_, .refl _ _⟩, fun hsm => ?_⟩
  · have := of_decide_eq_true hbig
    unfold pathB
    rw [decide_eq_false (by omega)]; rfl
  have hsm := of_decide_eq_false hsm
  have hP : pathB s = pathParts true (partsL s.data.toList) := by
    unfold pathB
    rw [decide_eq_true (by omega)]; rfl
  rw [hP]
  refine (split_spec s (by omega) w).mono ?_
  rintro e w2 ⟨l, rfl, ho, hf2⟩
  have hpl := partsL_len s.data.toList
  have hpz := partsL_size s.data.toList
  rw [bs_len] at hpl hpz
  generalize partsL s.data.toList = parts at ho hpl hpz
  have hlen : l.len = parts.length := by rw [ho.len, strV, List.length_map, bsm, List.length_map]
  refine ⟨l, rfl, fun z w' => ∃ k : Nat, z = k ∧ k ≤ parts.length ∧ Fr (fun _ => False) w w' ∧ Fr (fun _ => False) w2 w' ∧ pathParts true parts = pathParts (decide (k = 0)) (parts.drop k), fun z _ => parts.length - z.toNat, ⟨0, rfl, Nat.zero_le _, hf2, .refl _ _, rfl⟩, ?_⟩
  rintro z w7 ⟨k, rfl, hk, hF7, hf7, hB⟩
  refine ⟨fun hlt => ?_, fun hge => ?_⟩
  rotate_left
  · have hge := of_decide_eq_false hge
    rw [hB, List.drop_eq_nil_of_le (by omega)]
    refine ⟨?_, hF7⟩
    cases decide (k = 0) <;> rfl
  have hlt := of_decide_eq_true hlt
  have hkl : k < parts.length := by omega
  rw [List.drop_eq_getElem_cons hkl, pathParts] at hB
  have hsz := hpz _ (List.getElem_mem hkl)
  have hat : (strV (bsm parts))[k]? = some (.string ⟨parts[k].toArray⟩) := by
    rw [strV, bsm, List.getElem?_map, List.getElem?_map, List.getElem?_eq_getElem hkl]; rfl
  generalize parts[k] = q at hB hat hsz
  have hps : (⟨q.toArray⟩ : ByteArray).size ≤ 200 := by rw [bs_mksize]; omega
  generalize (⟨q.toArray⟩ : ByteArray) = p at hB hat hps
  obtain ⟨ad, had, hc⟩ := (ho.keep hf7 (by simp)).reads _ _ hat
  have e1 : IntKind.i64.wrap ((k : Int) + 1) = ((k + 1 : Nat) : Int) := by rw [wrap_i64 (by omega) (by omega)]; omega
  rw [e1]
  refine ⟨⟨by omega, by omega⟩, ad, had, p, by rw [Int.toNat_natCast, Nat.mul_one]; exact hc, fun he => ?_, fun he => ?_⟩
  · rw [bs_eq] at he
    have := of_decide_eq_true he
    refine ⟨?_, hF7⟩
    rw [hB, partPB, this]; rfl
  rw [bs_eq] at he
  have hne : p.size ≠ 0 := fun e => of_decide_eq_false he (bs_empty.2 e)
  have e2 : IntKind.i64.wrap ((p.size : Int) - 1) = ((p.size - 1 : Nat) : Int) := by rw [wrap_i64 (by omega) (by omega)]; omega
  rw [e2, show (0 : Int) = ((0 : Nat) : Int) from rfl, byteAt_nat, byteAt_nat]
  have hno : partPB (decide (k = 0)) p = false → ∀ w', Fr (fun _ => False) w w' → (Value.bool false = .bool (pathParts true parts) ∧ Fr (fun _ => False) w w') := fun h w' hf => ⟨by rw [hB, h]; rfl, hf⟩
  refine ⟨⟨by omega, by omega⟩, fun h0 => hno ?_ _ hF7, fun h0 => ⟨⟨by omega, by omega⟩, fun h1 => hno ?_ _ hF7, fun h1 => ?_⟩⟩
  · have h0 : byt p 0 = 46 := by have := eq_of_beq h0; omega
    unfold partPB; rw [h0]; simp
  · have h1 : byt p (p.size - 1) = 46 := by have := eq_of_beq h1; omega
    unfold partPB; rw [h1]; simp
  have h0 : byt p 0 ≠ 46 := fun e => by rw [e] at h0; simp at h0
  have h1 : byt p (p.size - 1) ≠ 46 := fun e => by rw [e] at h1; simp at h1
  have hPB : partPB (decide (k = 0)) p = (p.data.toList.all (okC (decide (k = 0))) && (!decide (k = 0) || (decide (byt p 0 ≠ 45) && p.data.toList.contains 46))) := by
    unfold partPB; rw [decide_eq_true hne, decide_eq_true h0, decide_eq_true h1]; rfl
  obtain ⟨w10, l11, hcv, ho11, hf10⟩ := bytes_of (P := Tryd.prog) (src := T_string) (dst := T_S_uint8) (e := T_uint8) (by kernel_rfl) (by kernel_rfl) (by kernel_rfl) p (Nat.le_trans hps (by decide)) w7
  have hF10 := hF7.trans' hf10
  have hl11 : l11.len = p.size := by rw [ho11.len, bv_len, bs_len]
  refine ⟨w10, l11, hcv, fun z w' => w' = w10 ∧ ∃ j : Nat, z = j ∧ j ≤ p.size ∧ (p.data.toList.take j).all (okC (decide (k = 0))) = true, fun z _ => p.size - z.toNat, ⟨rfl, 0, rfl, Nat.zero_le _, by simp⟩, ?_⟩
  rintro z w15 ⟨hw, j, rfl, hj, hall⟩
  subst hw
  have e3 : IntKind.i64.wrap ((j : Int) + 1) = ((j + 1 : Nat) : Int) := by rw [wrap_i64 (by omega) (by omega)]; omega
  rw [e3]
  refine ⟨fun hlt2 => ?_, fun hge2 => ?_⟩
  · have hlt2 := of_decide_eq_true hlt2
    have hjl : j < p.size := by omega
    have hbv : (byteV p.data.toList)[j]? = some (.int .u8 (byt p j : Int)) := by
      rw [byteV, List.getElem?_map, bs_get hjl, Option.map_some]
      rw [toNat_of _ (byt_lt p j)]
    obtain ⟨ad2, had2, hc2⟩ := ho11.reads _ _ hbv
    have hcl := byt_lt p j
    have hbget := bs_get hjl
    have hstop : okC (decide (k = 0)) (UInt8.ofNat (byt p j)) = false → partPB (decide (k = 0)) p = false := fun h => by
      rw [hPB, Bool.and_eq_false_iff]
      refine .inl ?_
      rw [List.all_eq_false]
      exact ⟨_, List.mem_of_getElem? hbget, by rw [h]; decide⟩
    have hgo : okC (decide (k = 0)) (UInt8.ofNat (byt p j)) = true → (p.data.toList.take (j + 1)).all (okC (decide (k = 0))) = true := fun h => by
      rw [bs_take hjl, List.all_append, hall, List.all_cons, h]; rfl
    have hok := okC_at (decide (k = 0)) (byt p j) hcl
    generalize hbc : byt p j = c at *
    refine ⟨⟨by omega, by omega⟩, ad2, had2, _, by rw [Int.toNat_natCast, Nat.mul_one]; exact hc2, SmL w15 c, ?_, ?_⟩
    · repeat' (first | apply And.intro | intro _)
      all_goals
        refine ⟨rfl, ?_⟩
        simp only [decide_eq_true_eq, decide_eq_false_iff_not, beq_iff_eq, beq_eq_false_iff_ne, ne_eq, true_iff] at *
        omega
    rintro bb w20 ⟨hw, hbb⟩
    subst hw
    have hyes : okC (decide (k = 0)) (UInt8.ofNat c) = true → (w20 = w20 ∧ ∃ j' : Nat, ((j + 1 : Nat) : Int) = j' ∧ j' ≤ p.size ∧ (p.data.toList.take j').all (okC (decide (k = 0))) = true) ∧ p.size - (((j + 1 : Nat) : Int)).toNat < p.size - ((j : Nat) : Int).toNat := fun h => ⟨⟨rfl, j + 1, rfl, by omega, hgo h⟩, by omega⟩
    have hnoc : okC (decide (k = 0)) (UInt8.ofNat c) = false → (Value.bool false = .bool (pathParts true parts) ∧ Fr (fun _ => False) w w20) := fun h => hno (hstop h) _ hF10
    refine ⟨fun hb => ?_, fun hb => hyes (hok.2 (.inl (hbb.1 (by simpa using hb))))⟩
    have hns : ¬ (97 ≤ c ∧ c ≤ 122 ∨ 48 ≤ c ∧ c ≤ 57 ∨ c = 45 ∨ c = 46) := fun h => by rw [hbb.2 h] at hb; cases hb
    refine ⟨fun hk0 => hnoc ?_, fun hk0 => ?_⟩
    · have hk0 : k = 0 := by have := eq_of_beq hk0; omega
      rw [Bool.eq_false_iff]
      intro h
      rcases hok.1 h with h | ⟨h, _⟩
      · exact hns h
      · rw [decide_eq_true hk0] at h; cases h
    have hk0 : k ≠ 0 := fun e => by rw [e] at hk0; simp at hk0
    have hfy : (65 ≤ c ∧ c ≤ 90 ∨ c = 95 ∨ c = 126) → okC (decide (k = 0)) (UInt8.ofNat c) = true := fun h => hok.2 (.inr ⟨decide_eq_false hk0, h⟩)
    have hfn : ¬ (65 ≤ c ∧ c ≤ 90 ∨ c = 95 ∨ c = 126) → okC (decide (k = 0)) (UInt8.ofNat c) = false := fun h => by
      rw [Bool.eq_false_iff]
      intro h'
      rcases hok.1 h' with h' | ⟨_, h'⟩
      · exact hns h'
      · exact h h'
    refine ⟨fun h65 => ⟨fun h90 => hyes (hfy ?_), fun h90 => ⟨fun h95 => hyes (hfy ?_), fun h95 => ⟨fun h126 => hnoc (hfn ?_), fun h126 => hyes (hfy ?_)⟩⟩⟩, fun h65 => ⟨fun h95 => hyes (hfy ?_), fun h95 => ⟨fun h126 => hnoc (hfn ?_), fun h126 => hyes (hfy ?_)⟩⟩⟩
    all_goals
      simp only [decide_eq_true_eq, decide_eq_false_iff_not, beq_iff_eq, beq_eq_false_iff_ne, ne_eq, Bool.not_eq_true', Bool.not_eq_false'] at *
      omega
  · have hge2 := of_decide_eq_false hge2
    have hje : j = p.size := by omega
    rw [hje, bs_all] at hall
    rw [hall, Bool.true_and] at hPB
    refine ⟨fun hk0 => ?_, fun hk0 => ?_⟩
    · have hk0 : k = 0 := by have := eq_of_beq hk0; omega
      rw [decide_eq_true hk0] at hPB
      refine ⟨⟨by omega, by omega⟩, fun h45 => hno ?_ _ hF10, fun h45 => ?_⟩
      · have h45 : byt p 0 = 45 := by have := eq_of_beq h45; omega
        rw [decide_eq_true hk0, hPB, h45]; simp
      have h45 : byt p 0 ≠ 45 := fun e => by rw [e] at h45; simp at h45
      refine (contains1_spec p 46 (by decide) w15).mono ?_
      rintro e w22 ⟨rfl, rfl⟩
      refine ⟨_, rfl, fun hn => hno ?_ _ hF10, fun hn => ?_⟩
      · have hn : p.data.toList.contains 46 = false := by simpa using hn
        rw [decide_eq_true hk0, hPB, hn]; simp
      · have hn : p.data.toList.contains 46 = true := by simpa using hn
        rw [hn, decide_eq_true h45] at hPB
        refine ⟨⟨k + 1, rfl, hkl, hF10, hf7.trans' hf10, ?_⟩, by dsimp only; omega⟩
        rw [hB, decide_eq_true hk0, hPB, decide_eq_false (Nat.succ_ne_zero k)]; rfl
    · have hk0 : k ≠ 0 := fun e => by rw [e] at hk0; simp at hk0
      rw [decide_eq_false hk0] at hPB
      refine ⟨⟨k + 1, rfl, hkl, hF10, hf7.trans' hf10, ?_⟩, by dsimp only; omega⟩
      rw [hB, decide_eq_false hk0, hPB, decide_eq_false (Nat.succ_ne_zero k)]; rfl
end Go.Proofs.YtmhlmdnhpfhoeaaDoor
