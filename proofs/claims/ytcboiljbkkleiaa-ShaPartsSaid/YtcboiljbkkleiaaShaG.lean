/- What the reference's Pad, words and out do. Conditions: the texts are short enough for a slice to hold (2 to the 40th). -/
import Derived.Test.YtcboiljbkkleiaaShaF1
import Derived.Test.YtcboiljbkkleiaaVcOz
set_option linter.unusedVariables false
namespace Go.Proofs.Ytcboiljbkkleiaa
open Go Vc BitsM ShaM Go.Proofs

/-- 'Pad'. -/
theorem rpad_spec (x : ByteArray) (hx : x.size ≤ 1099511627776) (w : World) : Calls Try.prog F_cartularyref02_Pad #[.string x] w fun e w' => ∃ l : Sl, e = .returned (.slice l.a l.len l.cap) ∧ OwnZ w' w.heap.size T_uint8 l (byteV (pad x.data.toList)) ∧ Fr (fun _ => False) w w' := by
  refine vc_cartularyref02_Pad_ok (R := fun v w' => ∃ l : Sl, v = .slice l.a l.len l.cap ∧ OwnZ w' w.heap.size T_uint8 l (byteV (pad x.data.toList)) ∧ Fr (fun _ => False) w w') ?_ (fun v w' ⟨l, h⟩ => ⟨l, by rw [h.1], h.2⟩)
  obtain ⟨w1, l2, hr1, o1, f1⟩ := bytes_of (P := Try.prog) (src := T_string) (dst := T_S_uint8) (e := T_uint8) (by kernel_rfl) elByte.sl (by kernel_rfl) x (by unfold maxLen; omega) w
  refine ⟨w1, l2, hr1, ?_⟩
  intro w3 hw3
  obtain ⟨X, hX⟩ : ∃ X, x.data.toList = X := ⟨_, rfl⟩
  have hXl : X.length = x.size := by rw [← hX]; simp
  rw [hX] at o1 ⊢
  obtain ⟨w4, l5, hr4, o4, f4, _⟩ := append_one_z elByte o1 (v := .int .u8 128) rfl (by rw [List.length_map]; unfold maxLen; omega) (by rw [List.length_map]; omega) f1.size hw3
  refine ⟨w4, l5, hr4, ?_⟩
  have hF : ∀ {w' w2 : World} {l : Sl} {xs : List Value}, Fr (fun _ => False) w w' → OwnZ w' w.heap.size T_uint8 l xs → Fr (Vc.At l) w' w2 → Fr (fun _ => False) w w2 := fun {w' w2 l xs} hf o h2 => hf.trans h2 fun q hq ⟨y, hy, e⟩ => by have := (o.blk hy).1; omega
  have o4' : OwnZ w4 w.heap.size T_uint8 l5 (byteV (X ++ 0x80 :: List.replicate 0 0)) := by rw [byteV, List.map_append]; exact o4
  refine ⟨fun l w' => ∃ j : Nat, j ≤ (119 - X.length % 64) % 64 ∧ OwnZ w' w.heap.size T_uint8 l (byteV (X ++ 0x80 :: List.replicate j 0)) ∧ Fr (fun _ => False) w w', fun l _ => (2 ^ 45 - l.len), ⟨0, Nat.zero_le _, o4', hF f1 o1 f4⟩, ?_⟩
  rintro l8 w9 ⟨j, hj, o9, f9⟩
  have hll : l8.len = X.length + 1 + j := by rw [o9.len, List.length_map, List.length_append, List.length_cons, List.length_replicate]; omega
  have e0 : Int.tmod (l8.len : Int) 64 = (((X.length + 1 + j) % 64 : Nat) : Int) := by rw [Int.tmod_eq_emod_of_nonneg (by omega)]; omega
  refine ⟨by decide, ?_⟩
  rw [e0]
  refine ⟨fun hne => ?_, fun heq => ?_⟩
  · have hne : ¬ (X.length + 1 + j) % 64 = 56 := fun h => by rw [h] at hne; exact absurd hne (by decide)
    intro w10 hw10
    have hvl : (byteV (X ++ 0x80 :: List.replicate j 0)).length = X.length + 1 + j := by rw [List.length_map, List.length_append, List.length_cons, List.length_replicate]; omega
    obtain ⟨w11, l12, hr11, o11, f11, _⟩ := append_one_z elByte o9 (v := .int .u8 0) rfl (by rw [hvl]; unfold maxLen; omega) (by rw [hvl]; omega) f9.size hw10
    have hl12 := o11.len
    rw [List.length_append, hvl, List.length_singleton] at hl12
    refine ⟨w11, l12, hr11, ⟨j + 1, by omega, ?_, hF f9 o9 f11⟩, by dsimp only; omega⟩
    have : X ++ 0x80 :: List.replicate (j + 1) 0 = (X ++ 0x80 :: List.replicate j 0) ++ [0] := by rw [List.replicate_succ', List.append_assoc]; rfl
    rw [this, byteV, List.map_append]; exact o11
  have heq : (X.length + 1 + j) % 64 = 56 := by
    by_cases h : (X.length + 1 + j) % 64 = 56
    · exact h
    · exfalso
      have : ((((X.length + 1 + j) % 64 : Nat) : Int) != 56) = true := by simp; omega
      rw [this] at heq; cases heq
  have hjz : j = (119 - X.length % 64) % 64 := by omega
  obtain ⟨bs, hbs⟩ : ∃ bs : List UInt8, (List.range 8).map (fun i => UInt8.ofNat (X.length * 8 / 2 ^ (56 - 8 * i))) = bs := ⟨_, rfl⟩
  have hbl : bs.length = 8 := by rw [← hbs]; simp
  have hpad : pad X = (X ++ 0x80 :: List.replicate j 0) ++ bs := by unfold pad; rw [hbs, ← hjz]
  obtain ⟨Y, hY⟩ : ∃ Y, X ++ 0x80 :: List.replicate j 0 = Y := ⟨_, rfl⟩
  have hYl : Y.length = X.length + 1 + j := by rw [← hY, List.length_append, List.length_cons, List.length_replicate]; omega
  rw [hY] at o9 hpad
  rw [hpad]
  refine ⟨fun l i w' => ∃ m : Nat, m ≤ 8 ∧ i = 7 - (m : Int) ∧ OwnZ w' w.heap.size T_uint8 l (byteV (Y ++ bs.take m)) ∧ Fr (fun _ => False) w w', fun _ i _ => (i + 1).toNat, ⟨0, by decide, rfl, by rw [List.take_zero, List.append_nil]; exact o9, f9⟩, ?_⟩
  rintro l15 i w17 ⟨m, hm, rfl, o17, f17⟩
  refine ⟨fun hge => ?_, fun hlt => ?_⟩
  · have hge := of_decide_eq_true hge
    have hm8 : m < 8 := by omega
    have e1 : IntKind.i64.wrap (8 * (7 - (m : Int))) = ((56 - 8 * m : Nat) : Int) := by rw [wrap_i64 (by omega) (by omega)]; omega
    have e2 : IntKind.i64.wrap (7 - (m : Int) - 1) = 7 - ((m + 1 : Nat) : Int) := by rw [wrap_i64 (by omega) (by omega)]; omega
    have hg : bs[m]'(by omega) = UInt8.ofNat (X.length * 8 / 2 ^ (56 - 8 * m)) := by
      have h1 : bs[m]? = some (UInt8.ofNat (X.length * 8 / 2 ^ (56 - 8 * m))) := by
        rw [← hbs, List.getElem?_map, List.getElem?_range hm8]; rfl
      exact (List.getElem?_eq_some_iff.1 h1).2
    have htk : bs.take (m + 1) = bs.take m ++ [UInt8.ofNat (X.length * 8 / 2 ^ (56 - 8 * m))] := by rw [List.take_succ_eq_append_getElem (by omega), hg]
    have ev : IntKind.u8.wrap (Int.fdiv (IntKind.u64.wrap (IntKind.u64.wrap (x.size : Int) * 8)) (2 ^ min (Int.toNat ((56 - 8 * m : Nat) : Int)) 64)) = (((UInt8.ofNat (X.length * 8 / 2 ^ (56 - 8 * m))).toNat : Nat) : Int) := by
      have h1 : min (Int.toNat ((56 - 8 * m : Nat) : Int)) 64 = 56 - 8 * m := by omega
      have hp : (2 : Int) ^ (56 - 8 * m) = ((2 ^ (56 - 8 * m) : Nat) : Int) := by push_cast; rfl
      have h2 : IntKind.u64.wrap (IntKind.u64.wrap (x.size : Int) * 8) = ((X.length * 8 : Nat) : Int) := by rw [wrap_u64 (x := (x.size : Int)) (by omega) (by omega), wrap_u64 (by omega) (by omega)]; omega
      rw [h1, hp, h2, Int.fdiv_eq_ediv_of_nonneg _ (Int.natCast_nonneg _), ← Int.natCast_ediv, wrap_u8_mod, UInt8.toNat_ofNat']
      omega
    rw [e1, e2, ev]
    refine ⟨by omega, ?_⟩
    intro w18 hw18
    have hl : (byteV (Y ++ bs.take m)).length = Y.length + m := by rw [List.length_map, List.length_append, List.length_take, hbl]; omega
    obtain ⟨w19, l20, hr19, o19, f19, _⟩ := append_one_z elByte o17 (v := .int .u8 (((UInt8.ofNat (X.length * 8 / 2 ^ (56 - 8 * m))).toNat : Nat) : Int)) rfl (by rw [hl]; unfold maxLen; omega) (by rw [hl]; omega) f17.size hw18
    refine ⟨w19, l20, hr19, ⟨m + 1, by omega, rfl, ?_, hF f17 o17 f19⟩, by dsimp only; omega⟩
    rw [htk, ← List.append_assoc, byteV, List.map_append]; exact o19
  · have hlt := of_decide_eq_false hlt
    have : m = 8 := by omega
    subst this
    rw [List.take_of_length_le (by omega)] at o17
    exact ⟨l15, rfl, o17, f17⟩

theorem be_sum (a0 a1 a2 a3 : UInt8) : IntKind.u32.wrap (IntKind.u32.wrap (IntKind.u32.wrap (IntKind.u32.wrap (IntKind.u32.wrap ((a0.toNat : Nat) : Int) * 16777216) + IntKind.u32.wrap (IntKind.u32.wrap ((a1.toNat : Nat) : Int) * 65536)) + IntKind.u32.wrap (IntKind.u32.wrap ((a2.toNat : Nat) : Int) * 256)) + IntKind.u32.wrap ((a3.toNat : Nat) : Int)) =
    (((a0.toNat * 16777216 + a1.toNat * 65536 + a2.toNat * 256 + a3.toNat) % 4294967296 : Nat) : Int) := by
  have l0 := a0.toNat_lt
  have l1 := a1.toNat_lt
  have l2 := a2.toNat_lt
  have l3 := a3.toNat_lt
  simp only [wrap_u32_mod]
  omega
/-- 'words'. -/
theorem rwords_spec {a : Option Addr} {n c : Nat} {bs : List UInt8} {w : World} (hr : Reads w a (byteV bs)) (hn : bs.length = n) (h64 : 64 ≤ n) :
    Calls Try.prog F_cartularyref02_words #[.slice a n c] w fun e w' => ∃ l : Sl, e = .returned (.slice l.a l.len l.cap) ∧ Own w' w.heap.size T_uint32 l (uv (words bs)) ∧ Fr (fun _ => False) w w' := by
  subst hn
  refine vc_cartularyref02_words_ok (R := fun v w' => ∃ l : Sl, v = .slice l.a l.len l.cap ∧ Own w' w.heap.size T_uint32 l (uv (words bs)) ∧ Fr (fun _ => False) w w') ?_ (fun v w' ⟨l, h⟩ => ⟨l, by rw [h.1], h.2⟩)
  intro w1 hw1
  have o1 : Own w1 w.heap.size T_uint32 ⟨some ⟨w.heap.size, 0, none⟩, 0, 0⟩ [] := ⟨rfl, .inr ⟨w.heap.size, #[], rfl, Nat.le_refl _, hw1 ▸ alloc_new _ _, Nat.le_refl _, Nat.zero_le _, rfl, rfl⟩⟩
  have f1 : Fr (fun _ => False) w w1 := hw1 ▸ Fr.alloc _ _ _
  refine ⟨fun l i w' => ∃ k : Nat, k ≤ 16 ∧ i = ((4 * k : Nat) : Int) ∧ Own w' w.heap.size T_uint32 l (uv ((words bs).take k)) ∧ Fr (fun _ => False) w w', fun _ i _ => (64 - i).toNat, ⟨0, by decide, rfl, o1, f1⟩, ?_⟩
  rintro l i w6 ⟨k, hk, rfl, ol, f6⟩
  refine ⟨fun hlt => ?_, fun hge => ?_⟩
  · have hlt := of_decide_eq_true hlt
    have hk16 : k < 16 := by omega
    intro w7 d7
    have f7 := f6.trans' (.drew _ d7)
    have g : ∀ {w' : World}, Fr (fun _ => False) w w' → ∀ j, j < bs.length → ∃ y, a = some y ∧ w'.cell? (y.add j) = some (.int .u8 (((bs.getD j 0).toNat : Nat) : Int)) := fun {w'} hf j hj => by
      obtain ⟨y, hy, hc⟩ := (hr.keep hf (by simp)) j (.int .u8 (((bs.getD j 0).toNat : Nat) : Int)) (by simp [byteV, hj])
      exact ⟨y, hy, hc⟩
    obtain ⟨y, hy, _⟩ := g f7 0 (by omega)
    have g' : ∀ {w' : World}, Fr (fun _ => False) w w' → ∀ j, j < bs.length → w'.cell? (y.add j) = some (.int .u8 (((bs.getD j 0).toNat : Nat) : Int)) := fun {w'} hf j hj => by
      obtain ⟨z, hz, hc⟩ := g hf j hj
      rw [hy] at hz; cases hz; exact hc
    have e1 : IntKind.i64.wrap (((4 * k : Nat) : Int) + 1) = ((4 * k + 1 : Nat) : Int) := by rw [wrap_i64 (by omega) (by omega)]; omega
    have e2 : IntKind.i64.wrap (((4 * k : Nat) : Int) + 2) = ((4 * k + 2 : Nat) : Int) := by rw [wrap_i64 (by omega) (by omega)]; omega
    have e3 : IntKind.i64.wrap (((4 * k : Nat) : Int) + 3) = ((4 * k + 3 : Nat) : Int) := by rw [wrap_i64 (by omega) (by omega)]; omega
    have e4 : IntKind.i64.wrap (((4 * k : Nat) : Int) + 4) = ((4 * (k + 1) : Nat) : Int) := by rw [wrap_i64 (by omega) (by omega)]; omega
    rw [e1, e2, e3, e4]
    simp only [Int.toNat_natCast, Nat.mul_one]
    refine ⟨Fr (fun _ => False) w, f7, ⟨by omega, by omega⟩, y, hy, _, fun w hw => g' hw _ (by omega), ⟨by omega, by omega⟩, y, hy, _, fun w hw => g' hw _ (by omega), ⟨by omega, by omega⟩, y, hy, _, fun w hw => g' hw _ (by omega), ⟨by omega, by omega⟩, y, hy, _, fun w hw => g' hw _ (by omega), ?_⟩
    rw [be_sum]
    have hbe : (((bs.getD (4 * k) 0).toNat * 16777216 + (bs.getD (4 * k + 1) 0).toNat * 65536 + (bs.getD (4 * k + 2) 0).toNat * 256 + (bs.getD (4 * k + 3) 0).toNat) % 4294967296) = (be bs (4 * k)).toNat := by
      unfold be; rw [BitVec.toNat_ofNat]
    rw [hbe]
    intro w21 hw21
    have f21 : Fr (fun _ => False) w7 w21 := hw21 ▸ Fr.alloc _ _ _
    have hl : (uv ((words bs).take k)).length = k := by rw [uv_len, List.length_take, words_length]; omega
    obtain ⟨w22, l23, hr22, o22, f22⟩ := append_one elU32 (ol.drew d7) (v := .int .u32 (((be bs (4 * k)).toNat : Nat) : Int)) rfl (by rw [hl]; unfold maxLen; omega) (by rw [hl]; omega) f7.size hw21
    have fW : Fr (fun _ => False) w w22 := f7.trans f22 (fun q hq ⟨y, hy, e⟩ => by have := (ol.blk hy).1; omega)
    refine ⟨f7.trans' f21, w22, l23, hr22, fW, ⟨k + 1, by omega, rfl, ?_, fW⟩, by omega⟩
    rw [words_take _ hk16, uv, List.map_append]; exact o22
  · have hge := of_decide_eq_false hge
    have : k = 16 := by omega
    subst this
    rw [List.take_of_length_le (by rw [words_length]; decide)] at ol
    exact ⟨l, rfl, ol, f6⟩
/-- 'out'. -/
theorem rout_spec {a : Option Addr} {n c : Nat} {WS : List ShaM.W} {w : World} (hr : Reads w a (uv WS)) (hn : WS.length = n) (h64 : n ≤ 64) :
    Calls Try.prog F_cartularyref02_out #[.slice a n c] w fun e w' => e = .returned (.string ⟨(out WS).toArray⟩) ∧ Fr (fun _ => False) w w' := by
  subst hn
  refine vc_cartularyref02_out_ok (R := fun v w' => v = .string ⟨(out WS).toArray⟩ ∧ Fr (fun _ => False) w w') ?_ (fun v w' h => ⟨by rw [h.1], h.2⟩)
  intro w1 hw1
  have o1 : Own w1 w.heap.size T_uint8 ⟨some ⟨w.heap.size, 0, none⟩, 0, 0⟩ [] := hw1 ▸ own_empty w T_uint8
  have f1 : Fr (fun _ => False) w w1 := hw1 ▸ Fr.alloc _ _ _
  have houtl : ∀ l : List ShaM.W, (out l).length = 4 * l.length := fun l => by
    induction l with
    | nil => rfl
    | cons x l ih =>
      show (outw x ++ out l).length = _
      rw [List.length_append, ih, List.length_cons]; simp only [outw, List.length_cons, List.length_nil]; omega
  refine ⟨fun l i w' => ∃ m : Nat, m ≤ WS.length ∧ i = (m : Int) ∧ Own w' w.heap.size T_uint8 l (byteV (out (WS.take m))) ∧ Fr (fun _ => False) w w', fun _ i _ => ((WS.length : Int) - i).toNat, ⟨0, Nat.zero_le _, rfl, o1, f1⟩, ?_⟩
  rintro l45 i w47 ⟨m, hm, rfl, o47, f47⟩
  refine ⟨fun hlt => ?_, fun hge => ?_⟩
  · have hlt := of_decide_eq_true hlt
    have hml : m < WS.length := by omega
    obtain ⟨y, hy, hc⟩ := (hr.keep f47 (by simp)) m _ (uv_get hml)
    have e1 : IntKind.i64.wrap ((m : Int) + 1) = ((m + 1 : Nat) : Int) := by rw [wrap_i64 (by omega) (by omega)]; omega
    refine ⟨⟨by omega, by omega⟩, y, hy, _, by rw [Int.toNat_natCast, Nat.mul_one]; exact hc, by decide, by decide, by decide, ?_⟩
    rw [outw1_eq, e1]
    have hg : WS.getD m 0 = WS[m] := by rw [List.getD_eq_getElem?_getD, List.getElem?_eq_getElem hml]; rfl
    rw [hg]
    have htk : out (WS.take (m + 1)) = out (WS.take m) ++ outw WS[m] := by
      rw [List.take_succ_eq_append_getElem hml, out, List.flatMap_append]; simp [out]
    generalize WS[m] = x at htk
    intro w50 hw50
    have f50 : Fr (fun _ => False) w47 w50 := hw50 ▸ Fr.alloc _ _ _
    have hz50 := alloc_new w47 (.cells (byteV (outw x)).toArray T_uint8)
    rw [← hw50] at hz50
    have hrd : Reads w50 (some ⟨w47.heap.size, 0, none⟩) (byteV (outw x)) := fun i v hv => by
      refine ⟨_, rfl, ?_⟩
      rw [add_lit, cell_blk hz50, Nat.zero_add, ← hv]; simp
    have hl : (byteV (out (WS.take m))).length = 4 * m := by rw [List.length_map, houtl, List.length_take]; omega
    obtain ⟨w51, l52, hr51, o51, f51⟩ := append_all elByte (o47.keep f50 (by simp)) 4 hrd (byteV_one _) (by rw [hl]; simp [outw, maxLen]; omega) (by rw [hl]; simp [outw]; omega) (f47.trans' f50).size (m := 4) (by simp [outw])
    refine ⟨w51, l52, hr51, ⟨m + 1, by omega, rfl, ?_, (f47.trans' f50).trans f51 (fun q hq ⟨y, hy, e⟩ => by have := (o47.blk hy).1; omega)⟩, by dsimp only; omega⟩
    rw [htk, byteV, List.map_append]; exact o51
  · have hge := of_decide_eq_false hge
    have : m = WS.length := by omega
    subst this
    rw [List.take_length] at o47
    exact ⟨w47, _, bytes_str elByte.sl (by kernel_rfl) (by kernel_rfl) _ o47.reads (by rw [o47.len, List.length_map]), rfl, f47⟩
end Go.Proofs.Ytcboiljbkkleiaa
