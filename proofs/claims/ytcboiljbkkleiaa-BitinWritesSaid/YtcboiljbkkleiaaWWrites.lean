/- The law 'any row of calls puts just the bits that the document says' walked: it returns true and writes nothing that was there. Conditions: the list is as Go's values are. -/
import Derived.Test.YtcboiljbkkleiaaWr
import Derived.Test.YtcboiljbkkleiaaWReads
set_option linter.unusedVariables false
namespace Go.Proofs.Ytcboiljbkkleiaa
open Go Vc BitsM Go.Proofs

/-- A writer with the bits L1, and a list of bits L2 beside it. -/
structure BW (W : World) (B : Nat) (w : World) (sl lb : Sl) (L1 L2 : List Bool) : Prop where
  wr : Wrt w B sl L1
  own : Own w (B + 1) T_bool lb (bl L2)
  sep : ∀ x y, sl.a = some x → lb.a = some y → x.block ≠ y.block
  fr : Fr (fun k => B ≤ k) W w
section
variable {W w w' : World} {B : Nat} {sl lb : Sl} {L1 L2 : List Bool}
theorem BW.none (h : BW W B w sl lb L1 L2) (f : Fr (fun _ => False) w w') : BW W B w' sl lb L1 L2 :=
  ⟨h.wr.keep f (by simp) (by simp), h.own.keep f (by simp), h.sep, h.fr.trans f (by simp)⟩
theorem BW.slb (h : BW W B w sl lb L1 L2) {x : Addr} (hx : sl.a = some x) : B < x.block ∧ x.block < w.heap.size := by have := h.wr.1.own.blk hx; omega
theorem BW.wrop (h : BW W B w sl lb L1 L2) {sl' : Sl} {L1' : List Bool} (g : Wrt w' B sl' L1') (f : Fr (WX B sl) w w') (s : Since w sl sl') : BW W B w' sl' lb L1' L2 := by
  refine ⟨g, h.own.keep f ?_, ?_, h.fr.trans f ?_⟩
  · rintro x hx (h1 | ⟨y, hy, h1⟩)
    · have := (h.own.blk hx).1; omega
    · exact h.sep y x hy hx h1.symm
  · intro x y hx hy
    exact s.ne (h.own.blk hy).2 (fun z hz => h.sep z y hz hy) x hx
  · rintro k hk (h1 | ⟨y, hy, h1⟩)
    · omega
    · have := h.slb hy; omega
theorem BW.lop (h : BW W B w sl lb L1 L2) {lb' : Sl} {L2' : List Bool} (o : Own w' (B + 1) T_bool lb' (bl L2')) (f : Fr (At lb) w w') (s : Since w lb lb') : BW W B w' sl lb' L1 L2' := by
  refine ⟨h.wr.keep f ?_ ?_, o, ?_, h.fr.trans f ?_⟩
  · rintro ⟨y, hy, h1⟩; have := (h.own.blk hy).1; omega
  · rintro x hx ⟨y, hy, h1⟩; exact h.sep x y hx hy h1
  · intro x y hx hy he
    exact s.ne (h.slb hx).2 (fun z hz e => h.sep x z hx hz e.symm) y hy he.symm
  · rintro k hk ⟨y, hy, h1⟩; have := (h.own.blk hy).1; omega
theorem BW.fresh (h : BW W B w sl lb L1 L2) {lb' : Sl} {L2' : List Bool} (f : Fr (fun _ => False) w w') (o : Own w' w.heap.size T_bool lb' (bl L2')) : BW W B w' sl lb' L1 L2' := by
  have h2 := h.none f
  refine ⟨h2.wr, o.mono (by have := h.wr.lt; omega), ?_, h2.fr⟩
  intro x y hx hy
  have := (h.slb hx).2
  have := (o.blk hy).1
  omega
theorem own_list {w : World} {base : Nat} {l : Sl} {L : List Bool} (h : Own w base T_bool l (bl L)) : L.length = l.len := by rw [h.len, List.length_map]
end

theorem writes_walk (a0 : Option Addr) (len0 cap0 : Nat) (W : World) (h0 : IsRows 4 IsOp W a0 len0) :
    Calls Try.prog F_cartularylaw03_BitinWrites #[.slice a0 len0 cap0] W fun e w' => e = .returned (.bool true) ∧ RowKit.Below W.heap.size W w' := by
  refine vc_cartularylaw03_BitinWrites_ok (R := fun v w' => v = .bool true ∧ Fr (fun k => W.heap.size ≤ k) W w') ?_ (fun v w' h => ⟨by rw [h.1], h.2.below (Nat.le_refl _)⟩)
  rintro w1 rfl w2 rfl
  generalize hB : W.heap.size = B
  have hz := alloc_new W (.cells #[.slice none 0 0, .int .u64 0, .int .i64 0] T_bitin_Writer)
  rw [hB] at hz
  have f1 : Fr (fun k => B ≤ k) W (W.alloc (.cells #[.slice none 0 0, .int .u64 0, .int .i64 0] T_bitin_Writer)) := .alloc _ _ _
  have hs1 : (W.alloc (.cells #[.slice none 0 0, .int .u64 0, .int .i64 0] T_bitin_Writer)).heap.size = B + 1 := by simp [hB]
  generalize W.alloc (.cells #[.slice none 0 0, .int .u64 0, .int .i64 0] T_bitin_Writer) = w1 at hz f1 hs1 ⊢
  have hst : BW W B (w1.alloc (.cells #[] T_bool)) ⟨none, 0, 0⟩ ⟨some ⟨w1.heap.size, 0, none⟩, 0, 0⟩ [] [] := by
    have f2 : Fr (fun _ => False) w1 (w1.alloc (.cells #[] T_bool)) := .alloc _ _ _
    exact ⟨(Wrt.zero hz).keep f2 (by simp) (by simp), hs1 ▸ own_empty w1 T_bool, fun x y hx => (by cases hx), f1.trans f2 (by simp)⟩
  let INV : Sl → Int → World → Prop := fun lb n w => ∃ (i : Nat) (sl : Sl) (L : List Bool), n = (i : Int) ∧ BW W B w sl lb L L ∧ L.length ≤ 808 * i
  let M : Sl → Int → World → Nat := fun _ n _ => ((len0 : Int) - n).toNat
  refine ⟨INV, M, ⟨0, _, [], rfl, hst, by simp⟩, ?_⟩
  rintro lb n6 w7 ⟨i, sl, L, rfl, hI, hL⟩
  have tailp : Calls Try.prog F_cartularylaw03_awake #[] w7 (fun e w => ∃ b, e = Ending.returned (Value.bool b) ∧ (Value.bool b = .bool true ∧ Fr (fun k => B ≤ k) W w)) := by
    refine (awake3_spec w7).mono ?_
    rintro e w' ⟨rfl, f'⟩
    exact ⟨_, rfl, rfl, hI.fr.trans f' (by simp)⟩
  refine ⟨fun hlt => ⟨fun h100 => ?_, fun _ => tailp⟩, fun _ => tailp⟩
  have hlt := of_decide_eq_true hlt
  have h100 := of_decide_eq_true h100
  -- what stands behind every call
  have tail : ∀ (sl' lb' : Sl) (L' : List Bool) (w' : World), BW W B w' sl' lb' L' L' → L'.length ≤ 808 * (i + 1) →
      Calls Try.prog F_bitin_Writer_Text #[.pointer (some ⟨B, 0, none⟩)] w' (fun e w2 => ∃ s : ByteArray, e = .returned (.string s) ∧
        Calls Try.prog F_cartularyref03_Text #[.slice lb'.a lb'.len lb'.cap] w2 (fun e w3 => ∃ s2 : ByteArray, e = .returned (.string s2) ∧
          (((!s.toList == s2.toList) = true → (Value.bool false = .bool true ∧ Fr (fun k => B ≤ k) W w3)) ∧
           ((!s.toList == s2.toList) = false → (INV lb' (IntKind.i64.wrap ((i : Int) + 1)) w3 ∧ M lb' (IntKind.i64.wrap ((i : Int) + 1)) w3 < M lb (i : Int) w7))))) := by
    intro sl' lb' L' w' h hl
    refine (wtext_spec h.wr).mono ?_
    rintro e w2 ⟨rfl, f2⟩
    refine ⟨_, rfl, ?_⟩
    have h2 := h.none f2
    refine (text_spec lb'.cap h2.own.reads (own_list h2.own) (by omega)).mono ?_
    rintro e w3 ⟨rfl, f3⟩
    refine ⟨_, rfl, fun h => by simp at h, fun _ => ?_⟩
    rw [wrap_i64 (by omega) (by omega)]
    exact ⟨⟨i + 1, sl', L', by omega, h2.none f3, by omega⟩, by show ((len0 : Int) - _).toNat < ((len0 : Int) - _).toNat; omega⟩
  obtain ⟨x, vs, hx, hvl, ⟨kd, z, u, tx, rfl, hwk, hwz, hwu, htx⟩, hcs⟩ := h0.at (i := i) (w1 := w7) (by omega) (by rw [hB]; exact hI.fr)
  refine ⟨⟨by omega, hlt⟩, x, hx, kd, z, u, tx, load_agg (agg_of (by kernel_rfl)) (by kernel_rfl) (by rw [Int.toNat_natCast]; exact hcs), ?_⟩
  rintro w13 rfl
  refine ⟨_, run_storeVar_new (P := Try.prog) w7 49 _ #[.int .i64 kd, .int .i64 z, .int .u32 u, .string tx] (by kernel_rfl) rfl (by simp [Value.oneCell']), ?_⟩
  have hbo := alloc_new w7 (Obj.cells #[.int .i64 kd, .int .i64 z, .int .u32 u, .string tx] 49)
  have hI14 : BW W B (w7.alloc (Obj.cells #[.int .i64 kd, .int .i64 z, .int .u32 u, .string tx] 49)) sl lb L L := hI.none (.alloc _ _ _)
  have hne : ¬ WX B sl w7.heap.size := by
    rintro (h1 | ⟨y, hy, h1⟩)
    · have := hI.wr.lt; omega
    · have := (hI.slb hy).2; omega
  generalize w7.alloc (Obj.cells #[.int .i64 kd, .int .i64 z, .int .u32 u, .string tx] 49) = w14 at hbo hI14 ⊢
  generalize hbo' : w7.heap.size = bo at hbo hne ⊢
  have hz := wf_i64 hwz
  have hu := wf_u32 hwu
  obtain ⟨v, rfl⟩ := Int.eq_ofNat_of_zero_le hu.1
  refine ⟨kd, by rw [cell_blk hbo]; rfl, ?_, fun _ => ⟨?_, fun _ => ⟨?_, fun _ => ⟨?_, fun _ => tail _ _ _ _ hI14 (by omega)⟩⟩⟩⟩
  · -- Bits
    intro _
    refine ⟨_, by rw [cell_blk hbo]; rfl, z, by rw [cell_blk hbo]; rfl, ?_⟩
    by_cases hc : 0 ≤ z ∧ z ≤ 32
    · obtain ⟨m, rfl⟩ := Int.eq_ofNat_of_zero_le hc.1
      refine (wbits_spec hI14.wr (x := v) (n := m) (by omega) (by omega) (by omega)).mono ?_
      rintro e w19 ⟨rfl, sl2, h19, f19, s19⟩
      have k19 := f19.keep hbo hne
      have hI19 := hI14.wrop h19 f19 s19
      refine ⟨rfl, _, by rw [cell_blk k19]; rfl, fun _ => ⟨_, by rw [cell_blk k19]; rfl, fun _ => ⟨_, by rw [cell_blk k19]; rfl, _, by rw [cell_blk k19]; rfl, ?_⟩, fun h => absurd (of_decide_eq_false h) (by omega)⟩, fun h => absurd (of_decide_eq_false h) (by omega)⟩
      refine (low_spec v (by omega) m (by omega) w19).mono ?_
      rintro e w25 ⟨l26, rfl, ho, f25⟩
      have hI25 := hI19.none f25
      have hLl : (bl L).length = L.length := List.length_map ..
      have hnl : (bl (lowB m v)).length = m := by rw [List.length_map, lowB_length]
      obtain ⟨w27, l28, hr, ho27, f27, s27⟩ := append_all' elBool hI25.own l26.cap ho.reads (one_bl _) (by rw [hLl, hnl]; unfold maxLen; omega) (by rw [hLl, hnl]; omega) (by have := hI25.wr.lt; omega) ho.len.symm
      rw [← List.map_append] at ho27
      exact ⟨l26, rfl, w27, l28, hr, tail _ _ _ _ (hI25.lop ho27 f27 s27) (by rw [List.length_append, lowB_length]; omega)⟩
    · refine (wbits_bad (by omega)).mono ?_
      rintro e w19 ⟨rfl, rfl⟩
      refine ⟨rfl, _, by rw [cell_blk hbo]; rfl, fun h1 => ⟨_, by rw [cell_blk hbo]; rfl, fun h2 => ?_, fun _ => tail _ _ _ _ hI14 (by omega)⟩, fun _ => tail _ _ _ _ hI14 (by omega)⟩
      have h1 := of_decide_eq_true h1; have h2 := of_decide_eq_true h2
      exact absurd ⟨h1, h2⟩ hc
  · -- Code
    intro _
    refine ⟨_, by rw [cell_blk hbo]; rfl, z, by rw [cell_blk hbo]; rfl, ?_⟩
    by_cases hc : 1 ≤ z ∧ z ≤ 32
    · obtain ⟨m, rfl⟩ := Int.eq_ofNat_of_zero_le (show 0 ≤ z by omega)
      refine (wcode_spec hI14.wr (x := v) (n := m) (by omega) (by omega) (by omega) (by omega)).mono ?_
      rintro e w19 ⟨rfl, sl2, h19, f19, s19⟩
      have k19 := f19.keep hbo hne
      have hI19 := hI14.wrop h19 f19 s19
      refine ⟨rfl, _, by rw [cell_blk k19]; rfl, fun _ => ⟨_, by rw [cell_blk k19]; rfl, fun _ => ⟨_, by rw [cell_blk k19]; rfl, _, by rw [cell_blk k19]; rfl, ?_⟩, fun h => absurd (of_decide_eq_false h) (by omega)⟩, fun h => absurd (of_decide_eq_false h) (by omega)⟩
      refine (low_spec v (by omega) m (by omega) w19).mono ?_
      rintro e w25 ⟨l26, rfl, ho, f25⟩
      have hI25 := hI19.none f25
      refine ⟨l26, rfl, ?_⟩
      refine (turn_spec l26.cap ho.reads (own_list ho) (by rw [lowB_length]; omega)).mono ?_
      rintro e w59 ⟨l60, rfl, ho2, f59⟩
      have hI59 := hI25.none f59
      have hLl : (bl L).length = L.length := List.length_map ..
      have hnl : (bl (lowB m v).reverse).length = m := by rw [List.length_map, List.length_reverse, lowB_length]
      obtain ⟨w27, l28, hr, ho27, f27, s27⟩ := append_all' elBool hI59.own l60.cap ho2.reads (one_bl _) (by rw [hLl, hnl]; unfold maxLen; omega) (by rw [hLl, hnl]; omega) (by have := hI59.wr.lt; omega) ho2.len.symm
      rw [← List.map_append] at ho27
      exact ⟨l60, rfl, w27, l28, hr, tail _ _ _ _ (hI59.lop ho27 f27 s27) (by rw [List.length_append, List.length_reverse, lowB_length]; omega)⟩
    · refine (wcode_bad (by omega)).mono ?_
      rintro e w19 ⟨rfl, rfl⟩
      refine ⟨rfl, _, by rw [cell_blk hbo]; rfl, fun h1 => ⟨_, by rw [cell_blk hbo]; rfl, fun h2 => ?_, fun _ => tail _ _ _ _ hI14 (by omega)⟩, fun _ => tail _ _ _ _ hI14 (by omega)⟩
      have h1 := of_decide_eq_true h1; have h2 := of_decide_eq_true h2
      exact absurd ⟨h1, h2⟩ hc
  · -- Align
    intro _
    refine (walign_spec hI14.wr (by omega)).mono ?_
    rintro e w82 ⟨rfl, sl2, h82, f82, s82⟩
    have hI82 := hI14.wrop h82 f82 s82
    refine ⟨rfl, ?_⟩
    refine (text_spec lb.cap hI82.own.reads (own_list hI82.own) (by omega)).mono ?_
    rintro e w84 ⟨rfl, f84⟩
    have hI84 := hI82.none f84
    refine ⟨_, rfl, ?_⟩
    have hts : (⟨(textOf L).toArray⟩ : ByteArray).size = (L.length + 7) / 8 := by
      show (textOf L).toArray.size = _
      rw [List.size_toArray, textOf_length]
    refine (bits_spec ⟨(textOf L).toArray⟩ (by omega) w84).mono ?_
    rintro e w87 ⟨l88, rfl, ho, f87⟩
    rw [show (⟨(textOf L).toArray⟩ : ByteArray).data.toList = textOf L from rfl, sbits_textOf] at ho
    refine ⟨l88, rfl, tail _ _ _ _ (hI84.fresh f87 ho) (by rw [fill8_length]; omega)⟩
  · -- Bytes
    intro _
    refine ⟨tx, by rw [cell_blk hbo]; rfl, ?_⟩
    refine (few_spec tx 100 w14).mono ?_
    rintro e w97 ⟨rfl, rfl⟩
    have hs : (if tx.size > 100 then tx.extract 0 100 else tx).size ≤ 100 := by
      split
      · rw [ByteArray.size_extract]; omega
      · omega
    generalize (if tx.size > 100 then tx.extract 0 100 else tx) = t at hs ⊢
    refine ⟨_, rfl, ?_⟩
    refine (wbytes_spec hI14.wr t (by omega)).mono ?_
    rintro e w82 ⟨rfl, sl2, h82, f82, s82⟩
    have hI82 := hI14.wrop h82 f82 s82
    refine ⟨rfl, ?_⟩
    refine (text_spec lb.cap hI82.own.reads (own_list hI82.own) (by omega)).mono ?_
    rintro e w84 ⟨rfl, f84⟩
    have hI84 := hI82.none f84
    refine ⟨_, rfl, ?_⟩
    have hts : (⟨(textOf L).toArray⟩ : ByteArray).size = (L.length + 7) / 8 := by
      show (textOf L).toArray.size = _
      rw [List.size_toArray, textOf_length]
    refine (bits_spec ⟨(textOf L).toArray⟩ (by omega) w84).mono ?_
    rintro e w87 ⟨l88, rfl, ho, f87⟩
    rw [show (⟨(textOf L).toArray⟩ : ByteArray).data.toList = textOf L from rfl, sbits_textOf] at ho
    have hI87 := hI84.fresh f87 ho
    refine ⟨l88, rfl, ?_⟩
    refine (bits_spec t (by omega) w87).mono ?_
    rintro e w108 ⟨l109, rfl, ho2, f108⟩
    have hI108 := hI87.none f108
    have hLl : (bl (fill8 L)).length = 8 * ((L.length + 7) / 8) := by rw [List.length_map, fill8_length]
    have hnl : (bl (sbits t.data.toList)).length = 8 * t.size := by rw [List.length_map, sbits_length]; rfl
    obtain ⟨w27, l28, hr, ho27, f27, s27⟩ := append_all' elBool hI108.own l109.cap ho2.reads (one_bl _) (by rw [hLl, hnl]; unfold maxLen; omega) (by rw [hLl, hnl]; omega) (by have := hI108.wr.lt; omega) ho2.len.symm
    rw [← List.map_append] at ho27
    refine ⟨l109, rfl, w27, l28, hr, tail _ _ _ _ (hI108.lop ho27 f27 s27) ?_⟩
    have e1 : t.data.toList.length = t.size := by simp
    rw [List.length_append, fill8_length, sbits_length, e1]; omega
end Go.Proofs.Ytcboiljbkkleiaa
