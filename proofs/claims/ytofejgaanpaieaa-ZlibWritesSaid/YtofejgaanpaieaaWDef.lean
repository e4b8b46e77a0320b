/- The laws on deflated streams walked. No condition. -/
import Derived.Test.YtofejgaanpaieaaDefA
import Derived.Test.YtofejgaanpaieaaWInf0
import Derived.Test.YtofejgaanpaieaaVcOz
import Derived.Test.YtofejgaanpaieaaGenA
import Derived.Test.YtofejgaanpaieaaLaw5W
import Derived.Laws.Strings
set_option linter.unusedVariables false
namespace DefM
open BitsM HuffM InfM SumM Go.Proofs.Ytofejgaanpaieaa
/-- A stream is inflated wherever it stands. -/
theorem stream_inflate {t s : List UInt8} (h : Stream t s) (front back : List UInt8) {most : Nat} (hm : most ≤ 65536) : InfM.inflate (front ++ (t ++ back)) (front.length : Int) (most : Int) = if s.length ≤ most then (s, t.length, 0) else ([], 0, 2) := by
  obtain ⟨p, hp, hst⟩ := h
  unfold InfM.inflate
  rw [if_neg (by rw [List.length_append]; omega), Int.toNat_natCast, Int.toNat_natCast, List.drop_left]
  unfold InfM.inf
  have := hst [] [] most back ((sbits (t ++ back)).length + 1) rfl (Nat.zero_le _) (by rw [sbits_length, List.length_append]; omega)
  simp only [List.nil_append, List.length_nil, Nat.zero_add] at this
  rw [this]
  by_cases hl : s.length ≤ most
  · rw [if_pos hl, if_pos hl]
    dsimp only
    rw [hp]
  · rw [if_neg hl, if_neg hl]
end DefM
namespace Go.Proofs.Ytofejgaanpaieaa
open Go Vc BitsM HuffM SumM Go.Proofs

theorem size_mk (l : List UInt8) : ByteArray.size ⟨l.toArray⟩ = l.length := by simp [ByteArray.size]
theorem data_mk (l : List UInt8) : (⟨l.toArray⟩ : ByteArray).data.toList = l := by simp
theorem bytes_ext {a b : ByteArray} (h : a.data.toList = b.data.toList) : a = b := ByteArray.ext (Array.ext' h)
theorem data_app (a b : ByteArray) : (a ++ b).data.toList = a.data.toList ++ b.data.toList := by simp
/-- The reference's 'Stored'. -/
theorem rstored_spec (s : ByteArray) (hs : s.size ≤ 100000000) (w : World) :
    Calls Try.prog F_cartularyref05_Stored #[.string s] w fun e w' => e = .returned (.string ⟨(storedS s.data.toList).toArray⟩) ∧ Fr (fun _ => False) w w' := by
  refine vc_cartularyref05_Stored_ok (R := fun v w' => v = .string ⟨(storedS s.data.toList).toArray⟩ ∧ Fr (fun _ => False) w w') ?_ (fun v w' h => ⟨by rw [h.1], h.2⟩)
  have hsl : ∀ t : ByteArray, t.data.toList.length = t.size := fun t => by simp
  have hz : ∀ a b : ByteArray, (a ++ b).size = a.size + b.size := fun a b => by simp
  refine ⟨fun t d w' => w' = w ∧ d.data.toList ++ storedS t.data.toList = storedS s.data.toList ∧ t.size ≤ s.size ∧ d.size ≤ 2 * (s.size - t.size), fun t _ _ => t.size, ⟨rfl, rfl, Nat.le_refl _, Nat.zero_le _⟩, ?_⟩
  rintro t d w5 ⟨hw, hd, hts, hds⟩
  replace hw := hw.symm
  subst hw
  refine ⟨fun hgt => ?_, fun hle => ⟨by decide, by decide, by decide, by decide, fun w6 h6 => ?_⟩⟩
  · have hgt := of_decide_eq_true hgt
    have h5 : ByteArray.size ⟨#[0, 255, 255, 0, 0]⟩ = 5 := rfl
    have hx : (t.extract 0 (Int.toNat 65535)).size = 65535 := by rw [ByteArray.size_extract, show Int.toNat 65535 = 65535 from rfl]; omega
    have hy : (t.extract (Int.toNat 65535) t.size).size = t.size - 65535 := by rw [ByteArray.size_extract, show Int.toNat 65535 = 65535 from rfl]; omega
    have hxd : (t.extract 0 (Int.toNat 65535)).data.toList = t.data.toList.take 65535 := by rw [extract_list]; rfl
    have hyd : (t.extract (Int.toNat 65535) t.size).data.toList = t.data.toList.drop 65535 := by rw [extract_list, List.take_of_length_le (by simp)]; rfl
    refine ⟨⟨by decide, by omega⟩, by rw [h5, hx]; omega, by rw [hz, h5, hx]; omega, ⟨by decide, by omega⟩, ⟨rfl, ?_, by omega, by rw [hz, hz, h5, hx]; omega⟩, by dsimp only; omega⟩
    rw [data_app, data_app, hxd, hyd, ← hd, storedS_more (s := t.data.toList) (by rw [hsl]; omega)]
    rw [show (ByteArray.mk #[0, 255, 255, 0, 0]).data.toList = shead 0 65535 by decide]
    simp only [List.append_assoc]
  · have hle := of_decide_eq_false hle
    have hf6 : Fr (fun _ => False) w w6 := h6 ▸ Fr.alloc _ _ _
    obtain ⟨n, hn⟩ : ∃ n, t.size = n := ⟨_, rfl⟩
    rw [hn] at h6
    have e1 : IntKind.u8.wrap (Int.tmod (n : Int) 256) = ((n % 256 : Nat) : Int) := by rw [Int.tmod_eq_emod_of_nonneg (by omega), wrap_u8 (by omega) (by omega)]; omega
    have e2 : IntKind.i64.wrap (Int.tdiv (n : Int) 256) = ((n / 256 : Nat) : Int) := by rw [Int.tdiv_eq_ediv_of_nonneg (by omega), wrap_i64 (by omega) (by omega)]; omega
    have e3 : IntKind.u8.wrap (IntKind.i64.wrap (255 - Int.tmod (n : Int) 256)) = ((255 - n % 256 : Nat) : Int) := by rw [Int.tmod_eq_emod_of_nonneg (by omega), wrap_i64 (by omega) (by omega), wrap_u8 (by omega) (by omega)]; omega
    have e4 : IntKind.u8.wrap (IntKind.i64.wrap (255 - ((n / 256 : Nat) : Int))) = ((255 - n / 256 : Nat) : Int) := by rw [wrap_i64 (by omega) (by omega), wrap_u8 (by omega) (by omega)]; omega
    have e5 : IntKind.u8.wrap ((n / 256 : Nat) : Int) = ((n / 256 : Nat) : Int) := wrap_u8 (by omega) (by omega)
    rw [e1, e2, e3, e4, e5] at h6
    have hb : ∀ x : Nat, x < 256 → (UInt8.ofNat x).toNat = x := fun x hx => by simp; omega
    have hl5 : ∀ a b c d e : UInt8, ByteArray.size ⟨[a, b, c, d, e].toArray⟩ = 5 := fun _ _ _ _ _ => rfl
    have hr : Reads w6 (some ⟨w.heap.size, 0, none⟩) (byteV [UInt8.ofNat 1, UInt8.ofNat (n % 256), UInt8.ofNat (n / 256), UInt8.ofNat (255 - n % 256), UInt8.ofNat (255 - n / 256)]) := by
      intro i v hv
      refine ⟨_, rfl, ?_⟩
      rw [add_lit, cell_blk (h6 ▸ alloc_new _ _), Nat.zero_add]
      simp only [byteV, List.map_cons, List.map_nil, hb _ (show 1 < 256 by omega), hb _ (show n % 256 < 256 by omega), hb _ (show n / 256 < 256 by omega), hb _ (show 255 - n % 256 < 256 by omega), hb _ (show 255 - n / 256 < 256 by omega)] at hv
      simpa using hv
    refine ⟨w6, _, bytes_str (e := T_uint8) (by kernel_rfl) (by kernel_rfl) (by kernel_rfl) 5 hr rfl, by rw [hl5]; omega, by rw [hz, hl5]; omega, ?_, hf6⟩
    congr 1
    apply bytes_ext
    rw [data_app, data_app, data_mk, data_mk, ← hd, storedS_last (by rw [hsl]; omega), hsl, hn, List.append_assoc]
    congr 2
    simp only [shead, littleB, List.range_succ, List.range_zero, List.nil_append, List.map_cons, List.map_nil, List.cons_append, Nat.pow_zero, Nat.div_one, Nat.pow_one, List.cons.injEq, and_true, true_and]
    exact ⟨ofNat_eq (by omega), ofNat_eq (by omega), ofNat_eq (by omega)⟩
/-- 'InflateWrites'. -/
theorem writes5_walk (a0 : ByteArray) (W : World) : Calls Try.prog F_cartularylaw05_InflateWrites #[.string a0] W fun e w' => e = .returned (.bool true) ∧ RowKit.Below W.heap.size W w' := by
  refine vc_cartularylaw05_InflateWrites_ok (R := fun v w' => v = .bool true ∧ Fr (fun k => W.heap.size ≤ k) W w') ?_ (fun v w' h => ⟨by rw [h.1], h.2.below (Nat.le_refl _)⟩)
  refine (few_spec a0 3000 W).mono ?_
  rintro e w2 ⟨rfl, hw⟩
  replace hw := hw.symm
  subst hw
  have hs := few_len5 a0 3000
  generalize (if a0.size > 3000 then a0.extract 0 3000 else a0) = s at hs
  have hsl : s.data.toList.length = s.size := by simp
  refine ⟨s, rfl, (stored5_spec s (by omega) W).mono ?_⟩
  rintro e w5 ⟨rfl, hf5⟩
  refine ⟨_, rfl, (deflate_spec s (by omega) w5).mono ?_⟩
  rintro e w8 ⟨rfl, hst, hlen, hf8⟩
  refine ⟨_, rfl, (awake5_spec w8).mono ?_⟩
  rintro e w11 ⟨rfl, hf11⟩
  refine ⟨_, rfl, fun hh => (by cases hh), fun _ => (rstored_spec s (by omega) w11).mono ?_⟩
  rintro e w14 ⟨rfl, hf14⟩
  have hf14' := ((hf5.trans' hf8).trans' hf11).trans' hf14
  have hst0 : DefM.Stream (storedS s.data.toList) s.data.toList := ⟨8 * (storedS s.data.toList).length, by omega, DefM.stream_stored _ _ rfl⟩
  have hsl5 := storedS_len s.data.toList.length s.data.toList rfl
  rw [hsl] at hsl5
  generalize storedS s.data.toList = X at hst0 hlen hsl5
  generalize deflT s = Y at hst hlen
  refine ⟨_, rfl, fun hh => (by simp at hh), fun _ => ⟨fun hgt => ?_, fun _ w16 h16 => ?_⟩⟩
  · have hgt := of_decide_eq_true hgt
    rw [size_mk, size_mk] at hgt; omega
  have hf16 : Fr (fun _ => False) w14 w16 := h16 ▸ Fr.alloc _ _ _
  have hb16 : w16.heap[w14.heap.size]? = some (.cells #[.string ⟨X.toArray⟩, .string ⟨Y.toArray⟩] T_string (0, 0)) := by rw [h16]; exact alloc_new _ _
  have up : ∀ {w' : World}, Fr (fun _ => False) W w' → Fr (fun k => W.heap.size ≤ k) W w' := fun h => h.mono fun _ _ h => h.elim
  refine ⟨fun i w' => ∃ k : Nat, i = (k : Int) ∧ k ≤ 2 ∧ w'.heap[w14.heap.size]? = some (.cells #[.string ⟨X.toArray⟩, .string ⟨Y.toArray⟩] T_string (0, 0)) ∧ Fr (fun _ => False) W w', fun i _ => 2 - i.toNat, ⟨0, rfl, by decide, hb16, hf14'.trans' hf16⟩, ?_⟩
  rintro i w20 ⟨k, rfl, hk, hb20, hf20⟩
  refine ⟨fun hlt => ?_, fun _ => ⟨rfl, up hf20⟩⟩
  have hlt := of_decide_eq_true hlt
  have e1 : IntKind.i64.wrap ((k : Int) + 1) = ((k + 1 : Nat) : Int) := by rw [wrap_i64 (by omega) (by omega)]; omega
  rw [e1]
  obtain ⟨Z, hZ, hZs, hZl⟩ : ∃ Z : List UInt8, (#[Value.string ⟨X.toArray⟩, .string ⟨Y.toArray⟩] : Array Value)[k]? = some (.string ⟨Z.toArray⟩) ∧ DefM.Stream Z s.data.toList ∧ Z.length ≤ 2 * s.size + 5 := by
    rcases (show k = 0 ∨ k = 1 by omega) with rfl | rfl
    · exact ⟨X, rfl, hst0, hsl5⟩
    · exact ⟨Y, rfl, hst, by omega⟩
  refine ⟨⟨by omega, by omega⟩, _, rfl, ⟨Z.toArray⟩, by rw [Int.toNat_natCast, Nat.mul_one, add_lit, cell_blk hb20, Nat.zero_add]; exact hZ, ?_⟩
  have hi : ∀ {most : Nat}, most ≤ 65536 → InfM.inflate Z 0 (most : Int) = if s.data.toList.length ≤ most then (s.data.toList, Z.length, 0) else ([], 0, 2) := fun hm => by
    have := DefM.stream_inflate hZs [] [] hm
    simpa using this
  refine (infl_spec ⟨Z.toArray⟩ (by rw [size_mk]; omega) 0 (s.size : Int) w20).mono ?_
  rw [data_mk, hi (by omega), if_pos (by omega)]
  rintro e w24 ⟨rfl, _, hf24⟩
  refine ⟨_, _, _, rfl, ?_⟩
  refine (infl_spec ⟨Z.toArray⟩ (by rw [size_mk]; omega) 0 (IntKind.i64.wrap ((s.size : Int) - 1)) w24).mono ?_
  rw [data_mk]
  rintro e w29 ⟨rfl, _, hf29⟩
  have hnext : (∃ j : Nat, ((k + 1 : Nat) : Int) = (j : Int) ∧ j ≤ 2 ∧ w29.heap[w14.heap.size]? = some (.cells #[.string ⟨X.toArray⟩, .string ⟨Y.toArray⟩] T_string (0, 0)) ∧ Fr (fun _ => False) W w29) ∧ 2 - (((k + 1 : Nat) : Int)).toNat < 2 - ((k : Int)).toNat :=
    ⟨⟨k + 1, rfl, by omega, hf29.keep (hf24.keep hb20 (by simp)) (by simp), (hf20.trans' hf24).trans' hf29⟩, by omega⟩
  have hsame : (⟨s.data.toList.toArray⟩ : ByteArray) = s := bytes_ext (data_mk _)
  refine ⟨_, _, _, rfl, ?_⟩
  by_cases h0 : s.size = 0
  · have hbad : InfM.inflate Z 0 (IntKind.i64.wrap ((s.size : Int) - 1)) = ([], 0, 1) := by
      unfold InfM.inflate
      rw [wrap_i64 (by omega) (by omega), if_pos (.inr (.inr (.inl (by omega))))]
    rw [hbad, hsame]
    refine ⟨fun hh => ?_, fun _ => ⟨fun hh => ?_, fun _ => ⟨fun hh => (by simp at hh), fun _ => ⟨fun hpos => ?_, fun _ => ⟨fun _ => ⟨fun hh => (by simp at hh), fun _ => hnext⟩, fun _ => hnext⟩⟩⟩⟩⟩
    · rw [beq_self_eq_true] at hh; cases hh
    · rw [size_mk] at hh; simp at hh
    · have := of_decide_eq_true hpos; omega
  · have hbad : InfM.inflate Z 0 (IntKind.i64.wrap ((s.size : Int) - 1)) = ([], 0, 2) := by
      rw [wrap_i64 (by omega) (by omega), show (s.size : Int) - 1 = ((s.size - 1 : Nat) : Int) by omega, hi (by omega), if_neg (by omega)]
    rw [hbad, hsame]
    refine ⟨fun hh => ?_, fun _ => ⟨fun hh => ?_, fun _ => ⟨fun hh => (by simp at hh), fun _ => ⟨fun _ => ⟨fun hh => (by simp at hh), fun _ => ⟨fun h00 => ?_, fun _ => hnext⟩⟩, fun hpos => ?_⟩⟩⟩⟩
    · rw [beq_self_eq_true] at hh; cases hh
    · rw [size_mk] at hh; simp at hh
    · have := eq_of_beq h00; omega
    · have := of_decide_eq_false hpos; omega
/-- 'InflateInside'. -/
theorem inside_walk (a0 a1 a2 : ByteArray) (W : World) : Calls Try.prog F_cartularylaw05_InflateInside #[.string a0, .string a1, .string a2] W fun e w' => e = .returned (.bool true) ∧ RowKit.Below W.heap.size W w' := by
  refine vc_cartularylaw05_InflateInside_ok (R := fun v w' => v = .bool true ∧ Fr (fun k => W.heap.size ≤ k) W w') ?_ (fun v w' h => ⟨by rw [h.1], h.2.below (Nat.le_refl _)⟩)
  refine (few_spec a0 1500 W).mono ?_
  rintro e w2 ⟨rfl, hw⟩
  replace hw := hw.symm
  subst hw
  have hs0 := few_len5 a0 1500
  generalize (if a0.size > 1500 then a0.extract 0 1500 else a0) = f at hs0
  refine ⟨f, rfl, (few_spec a1 1500 W).mono ?_⟩
  rintro e w5 ⟨rfl, hw⟩
  replace hw := hw.symm
  subst hw
  have hs := few_len5 a1 1500
  generalize (if a1.size > 1500 then a1.extract 0 1500 else a1) = s at hs
  have hsl : s.data.toList.length = s.size := by simp
  refine ⟨s, rfl, (deflate_spec s (by omega) W).mono ?_⟩
  rintro e w8 ⟨rfl, hst, hlen, hf8⟩
  have hsl5 := storedS_len s.data.toList.length s.data.toList rfl
  rw [hsl] at hsl5
  generalize deflT s = Y at hst hlen
  have hY : ByteArray.size ⟨Y.toArray⟩ = Y.length := size_mk Y
  have hz : ∀ a b : ByteArray, (a ++ b).size = a.size + b.size := fun a b => by simp
  refine ⟨_, rfl, by rw [hY]; omega, (few_spec a2 1500 w8).mono ?_⟩
  rintro e w11 ⟨rfl, hw⟩
  replace hw := hw.symm
  subst hw
  have hs2 := few_len5 a2 1500
  generalize (if a2.size > 1500 then a2.extract 0 1500 else a2) = g at hs2
  have hz2 : (f ++ ⟨Y.toArray⟩ : ByteArray).size = f.size + Y.length := by rw [hz, hY]
  have hz3 : (f ++ ⟨Y.toArray⟩ ++ g : ByteArray).size = f.size + Y.length + g.size := by rw [hz, hz2]
  have hin : InfM.inflate (f ++ ⟨Y.toArray⟩ ++ g).data.toList (f.size : Int) 4000 = (s.data.toList, Y.length, 0) := by
    have h4 := DefM.stream_inflate hst f.data.toList g.data.toList (most := 4000) (by decide)
    rw [if_pos (show s.data.toList.length ≤ 4000 by omega), show f.data.toList.length = f.size by simp, show ((4000 : Nat) : Int) = 4000 from rfl] at h4
    rw [data_app, data_app, data_mk, List.append_assoc]
    exact h4
  refine ⟨g, rfl, by rw [hz2]; omega, ?_⟩
  generalize f ++ ⟨Y.toArray⟩ ++ g = X at hz3 hin ⊢
  refine (infl_spec X (by omega) (f.size : Int) 4000 w8).mono ?_
  rw [hin]
  rintro e w14 ⟨rfl, _, hf14⟩
  refine ⟨_, _, _, rfl, (awake5_spec w14).mono ?_⟩
  rintro e w19 ⟨rfl, hf19⟩
  have hsame : (⟨s.data.toList.toArray⟩ : ByteArray) = s := bytes_ext (data_mk _)
  rw [hsame, hY]
  refine ⟨_, rfl, fun _ => ⟨fun _ => ⟨fun _ => ⟨rfl, ((hf8.trans' hf14).trans' hf19).mono fun _ _ h => h.elim⟩, fun hh => ?_⟩, fun hh => ?_⟩, fun hh => (by cases hh)⟩
  · rw [beq_self_eq_true] at hh; cases hh
  · rw [beq_self_eq_true] at hh; cases hh
theorem byteV_set (l : List UInt8) (k : Nat) (c : UInt8) : (byteV l).set k (.int .u8 (c.toNat : Int)) = byteV (l.set k c) := by
  simp [byteV, List.map_set]
/-- Two streams, one behind the other. -/
theorem twice_inflate {a b t : List UInt8} (ha : a.length ≤ 500) (hb : b.length ≤ 500) (hst : DefM.Stream t b) : InfM.inflate ((storedS a).set 0 0 ++ t) 0 1000 = (a ++ b, 5 + a.length + t.length, 0) := by
  obtain ⟨p, hp, hst⟩ := hst
  have hx : (storedS a).set 0 0 = shead 0 a.length ++ a := by
    rw [storedS_last (by omega)]; rfl
  rw [hx]
  unfold InfM.inflate
  rw [if_neg (by rw [List.length_append]; omega), show (0 : Int).toNat = 0 from rfl, List.drop_zero, show (1000 : Int).toNat = 1000 from rfl]
  unfold InfM.inf
  obtain ⟨n, hn⟩ : ∃ n, (sbits (shead 0 a.length ++ (a ++ t))).length = n := ⟨_, rfl⟩
  have hn2 : n = 8 * (5 + (a.length + t.length)) := by rw [← hn, sbits_length, List.length_append, shead_length, List.length_append]
  have hFl : (sbits (shead 0 a.length ++ a)).length = 8 * (5 + a.length) := by rw [sbits_length, List.length_append, shead_length]
  have h1 := DefM.stored_block (most := 1000) (F := []) (A := []) (c := a) (rest := t) (fl := 0) (f := n) rfl (by decide) (by omega)
  simp only [List.nil_append, List.length_nil, Nat.zero_add] at h1
  rw [List.append_assoc, hn, h1, if_pos (by omega), if_neg (by decide)]
  have h2 := hst (sbits (shead 0 a.length ++ a)) a 1000 [] n (by omega) (by omega) (by omega)
  rw [List.append_nil, ← sbits_append, hFl, List.append_assoc, if_pos (by omega)] at h2
  rw [h2]
  dsimp only
  congr 2
  omega
/-- 'InflateTwice'. -/
theorem twice_walk (a0 a1 : ByteArray) (W : World) : Calls Try.prog F_cartularylaw05_InflateTwice #[.string a0, .string a1] W fun e w' => e = .returned (.bool true) ∧ RowKit.Below W.heap.size W w' := by
  refine vc_cartularylaw05_InflateTwice_ok (R := fun v w' => v = .bool true ∧ Fr (fun k => W.heap.size ≤ k) W w') ?_ (fun v w' h => ⟨by rw [h.1], h.2.below (Nat.le_refl _)⟩)
  refine (few_spec a0 500 W).mono ?_
  rintro e w2 ⟨rfl, hw⟩
  replace hw := hw.symm
  subst hw
  have hsa := few_len5 a0 500
  generalize (if a0.size > 500 then a0.extract 0 500 else a0) = a at hsa
  refine ⟨a, rfl, (few_spec a1 500 W).mono ?_⟩
  rintro e w5 ⟨rfl, hw⟩
  replace hw := hw.symm
  subst hw
  have hsb := few_len5 a1 500
  generalize (if a1.size > 500 then a1.extract 0 500 else a1) = b at hsb
  have hal : a.data.toList.length = a.size := by simp
  have hbl : b.data.toList.length = b.size := by simp
  have hz : ∀ a b : ByteArray, (a ++ b).size = a.size + b.size := fun a b => by simp
  refine ⟨b, rfl, (stored5_spec a (by omega) W).mono ?_⟩
  rintro e w8 ⟨rfl, hf8⟩
  have hX : (storedS a.data.toList).length = 5 + a.size := by rw [storedS_last (by omega), List.length_append, shead_length, hal]
  have htw := fun t hst => twice_inflate (a := a.data.toList) (b := b.data.toList) (t := t) (by omega) (by omega) hst
  generalize storedS a.data.toList = X at hX htw
  have hXs : ByteArray.size ⟨X.toArray⟩ = X.length := size_mk X
  obtain ⟨w10, l11, hr10, ho10, hf10⟩ := bytes_of (P := Try.prog) (src := T_string) (dst := T_S_uint8) (e := T_uint8) (by kernel_rfl) (by kernel_rfl) (by kernel_rfl) ⟨X.toArray⟩ (by rw [hXs]; unfold maxLen; omega) w8
  rw [data_mk] at ho10
  have hl11 : l11.len = 5 + a.size := by rw [ho10.len]; simp [byteV, hX]
  refine ⟨⟨X.toArray⟩, rfl, w10, l11, hr10, fun hlt => ?_, fun hge => ⟨⟨by decide, by omega⟩, ?_⟩⟩
  · have := of_decide_eq_true hlt; omega
  obtain ⟨x, hx, hc, hw, hset⟩ := ho10.set (i := 0) (by simp [byteV, hX]; omega)
  refine ⟨x, hx, by simpa using hw, ?_⟩
  rintro w13 h13 w14 d14
  obtain ⟨ho13, hf13⟩ := hset (.int .u8 0)
  rw [show (Value.int .u8 0) = .int .u8 (((0 : UInt8).toNat : Nat) : Int) from rfl, byteV_set] at ho13
  have h13' : w13 = w10.setCell (x.add 0) (.int .u8 (((0 : UInt8).toNat : Nat) : Int)) := h13
  rw [show (Value.int .u8 0) = .int .u8 (((0 : UInt8).toNat : Nat) : Int) from rfl, ← h13'] at hf13
  rw [← h13'] at ho13
  have ho14 := ho13.keep (.drew (fun _ => False) d14) (by simp)
  have hfr14 : Fr (fun _ => False) W w14 := ((hf8.trans' hf10).trans hf13 fun k hk ⟨y, hy, e⟩ => by have := (ho10.blk hy).1; have := hf8.size; omega).trans' (.drew _ d14)
  refine ⟨fun w' => Fr (fun _ => False) w14 w', .refl _ _, ⟨(X.set 0 0).toArray⟩, fun w' hf => ?_, (deflate_spec b (by omega) w14).mono ?_⟩
  · exact bytes_str (e := T_uint8) (by kernel_rfl) (by kernel_rfl) (by kernel_rfl) l11.cap (ho14.keep hf (by simp)).reads (by rw [ho14.len]; simp [byteV])
  rintro e w19 ⟨rfl, hst, hlen, hf19⟩
  have hsl5 := storedS_len b.data.toList.length b.data.toList rfl
  rw [hbl] at hsl5
  have hti := htw _ hst
  have hY : ByteArray.size ⟨(deflT b).toArray⟩ = (deflT b).length := size_mk _
  have hXs0 : ByteArray.size ⟨(X.set 0 0).toArray⟩ = X.length := by rw [size_mk, List.length_set]
  have hz2 : (⟨(X.set 0 0).toArray⟩ ++ ⟨(deflT b).toArray⟩ : ByteArray).size = X.length + (deflT b).length := by rw [hz, hXs0, hY]
  have hzd : (⟨(X.set 0 0).toArray⟩ ++ ⟨(deflT b).toArray⟩ : ByteArray).data.toList = X.set 0 0 ++ deflT b := by rw [data_app, data_mk, data_mk]
  refine ⟨_, rfl, hf19, by rw [hXs0, hY]; omega, ?_⟩
  generalize (⟨(X.set 0 0).toArray⟩ ++ ⟨(deflT b).toArray⟩ : ByteArray) = Z at hz2 hzd ⊢
  refine (infl_spec Z (by omega) 0 1000 w19).mono ?_
  rw [hzd, hti]
  rintro e w22 ⟨rfl, _, hf22⟩
  refine ⟨_, _, _, rfl, hf19.trans' hf22, (awake5_spec w22).mono ?_⟩
  rintro e w27 ⟨rfl, hf27⟩
  refine ⟨_, rfl, fun _ => ⟨fun _ => ⟨by omega, fun _ => ?_, fun hh => ?_⟩, fun hh => (by cases hh)⟩, fun hh => (by cases hh)⟩
  · refine (deflate_spec b (by omega) w27).mono ?_
    rintro e w30 ⟨rfl, _, _, hf30⟩
    refine ⟨_, rfl, ?_, (((((hfr14.trans' hf19).trans' hf22).trans' hf27).trans' hf30).mono fun _ _ h => h.elim)⟩
    refine congrArg Value.bool ?_
    have hw' : IntKind.i64.wrap ((l11.len : Int) + ((⟨(deflT b).toArray⟩ : ByteArray).size : Int)) = ((5 + a.data.toList.length + (deflT b).length : Nat) : Int) := by
      rw [hY, hl11, hal, wrap_i64 (by omega) (by omega)]; omega
    rw [hw', beq_self_eq_true]
  · rw [ByteArray.toList_eq, ByteArray.toList_eq, data_mk, data_app, beq_self_eq_true] at hh; cases hh
end Go.Proofs.Ytofejgaanpaieaa
