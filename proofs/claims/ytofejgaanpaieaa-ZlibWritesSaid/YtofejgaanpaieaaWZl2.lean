/- The law on written frames walked. Conditions: the number is as Go's values are. -/
import Derived.Test.YtofejgaanpaieaaWDef
import Derived.Test.YtofejgaanpaieaaWZl
import Derived.Test.YtofejgaanpaieaaGenB
import Derived.Test.YtofejgaanpaieaaLaw6W
set_option linter.unusedVariables false
namespace Go.Proofs.Ytofejgaanpaieaa
open Go Vc BitsM HuffM SumM Go.Proofs

theorem zwrite_spec (s : ByteArray) (hs : s.size ≤ 100000000) (w : World) :
    Calls Try.prog F_zlib_Write #[.string s] w fun e w' => e = .returned (.string ⟨(frameS (deflT s) s.data.toList).toArray⟩) ∧ DefM.Stream (deflT s) s.data.toList ∧ (deflT s).length ≤ 2 * s.size + 5 ∧ Fr (fun _ => False) w w' := by
  refine vc_zlib_Write_ok (R := fun v w' => v = .string ⟨(frameS (deflT s) s.data.toList).toArray⟩ ∧ DefM.Stream (deflT s) s.data.toList ∧ (deflT s).length ≤ 2 * s.size + 5 ∧ Fr (fun _ => False) w w') ?_ (fun v w' h => ⟨by rw [h.1], h.2⟩)
  refine (deflate_spec s hs w).mono ?_
  have hsl5 := storedS_len s.data.toList.length s.data.toList rfl
  rw [show s.data.toList.length = s.size by simp] at hsl5
  rintro e w2 ⟨rfl, hst, hlen, hf2⟩
  refine ⟨_, rfl, (zframe_spec ⟨(deflT s).toArray⟩ s (by rw [size_mk (deflT s)]; omega) (by omega) w2).mono ?_⟩
  rintro e w5 ⟨rfl, hf5⟩
  rw [data_mk]
  exact ⟨_, rfl, rfl, hst, by omega, hf2.trans' hf5⟩
/-- The reference's 'Frame'. -/
theorem rframe_spec (t s : ByteArray) (ht : t.size ≤ 1099511627776) (hs : s.size ≤ 1099511627776) (w : World) :
    Calls Try.prog F_cartularyref06_Frame #[.string t, .string s] w fun e w' => e = .returned (.string ⟨(frameS t.data.toList s.data.toList).toArray⟩) ∧ Fr (fun _ => False) w w' := by
  refine vc_cartularyref06_Frame_ok (R := fun v w' => v = .string ⟨(frameS t.data.toList s.data.toList).toArray⟩ ∧ Fr (fun _ => False) w w') ?_ (fun v w' h => ⟨by rw [h.1], h.2⟩)
  have had := adler_lt s.data.toList
  have hcv : ∀ {wx : World} {g : Nat}, wx.heap[g]? = some (.cells #[.int .u8 120, .int .u8 1] T_uint8 (0, 0)) → (convert T_S_uint8 T_string (.slice (some ⟨g, 0, none⟩) 2 2)).run Try.prog wx = .ok (.string ⟨[120, 1].toArray⟩) wx := fun {wx g} hg => by
    refine bytes_str (e := T_uint8) (by kernel_rfl) (by kernel_rfl) (by kernel_rfl) 2 (bs := [120, 1]) (fun i v hv => ⟨_, rfl, ?_⟩) rfl
    rw [add_lit, cell_blk hg, Nat.zero_add]
    simpa [byteV] using hv
  have hz : ∀ a b : ByteArray, (a ++ b).size = a.size + b.size := fun a b => by simp
  have h2 : ByteArray.size ⟨[120, 1].toArray⟩ = 2 := rfl
  have hb : ByteArray.size ⟨(bigB 4 (adler s.data.toList)).toArray⟩ = 4 := by rw [size_mk, bigB_length]
  have ans : (⟨[120, 1].toArray⟩ ++ t ++ ⟨(bigB 4 (adler s.data.toList)).toArray⟩ : ByteArray) = ⟨(frameS t.data.toList s.data.toList).toArray⟩ := by
    apply bytes_ext
    rw [data_app, data_app, data_mk, data_mk, data_mk]; rfl
  have s1 : ByteArray.size ⟨[120, 1].toArray⟩ + t.size ≤ 9223372036854775807 := by rw [h2]; omega
  have s2 : (⟨[120, 1].toArray⟩ ++ t : ByteArray).size + ByteArray.size ⟨(bigB 4 (adler s.data.toList)).toArray⟩ ≤ 9223372036854775807 := by rw [hz, h2, hb]; omega
  have eu : IntKind.u64.wrap ((adler s.data.toList : Nat) : Int) = ((adler s.data.toList : Nat) : Int) := wrap_u64 (by omega) (by omega)
  have hA := fun wx => radler_spec s hs wx
  have hB := fun wx => rbig_spec (adler s.data.toList) 4 (by omega) (by decide) wx
  have al : ∀ wx : World, Fr (fun _ => False) wx (wx.alloc (.cells #[.int .u8 120, .int .u8 1] T_uint8)) ∧ (wx.alloc (.cells #[.int .u8 120, .int .u8 1] T_uint8)).heap[wx.heap.size]? = some (.cells #[.int .u8 120, .int .u8 1] T_uint8 (0, 0)) := fun wx => ⟨.alloc _ _ _, alloc_new _ _⟩
  intro w1 d1
  have f1 : Fr (fun _ => False) w w1 := .drew _ d1
  refine ⟨fun _ => True, trivial, fun w3 h3 => ?_, (hA w1).mono ?_⟩
  · obtain ⟨f3, b3⟩ := al w1
    rw [← h3] at f3 b3
    refine ⟨trivial, ⟨w3, _, hcv b3, trivial, s1, (hA w3).mono ?_⟩, (hA w3).mono ?_⟩
    · rintro e w7 ⟨rfl, hw⟩
      replace hw := hw.symm
      subst hw
      refine ⟨_, rfl, trivial, ?_⟩
      rw [eu]
      refine (hB w3).mono ?_
      rintro e w10 ⟨rfl, f10⟩
      exact ⟨_, rfl, trivial, s2, by rw [ans], (f1.trans' f3).trans' f10⟩
    · rintro e w13 ⟨rfl, hw⟩
      replace hw := hw.symm
      subst hw
      refine ⟨_, rfl, trivial, ⟨w3, _, hcv b3, trivial, s1, ?_⟩, ?_⟩
      · rw [eu]
        refine (hB w3).mono ?_
        rintro e w18 ⟨rfl, f18⟩
        exact ⟨_, rfl, trivial, s2, by rw [ans], (f1.trans' f3).trans' f18⟩
      · rw [eu]
        refine (hB w3).mono ?_
        rintro e w21 ⟨rfl, f21⟩
        exact ⟨_, rfl, trivial, w21, _, hcv (f21.keep b3 (by simp)), trivial, s1, s2, by rw [ans], (f1.trans' f3).trans' f21⟩
  · rintro e w26 ⟨rfl, hw⟩
    replace hw := hw.symm
    subst hw
    refine ⟨_, rfl, trivial, fun w28 h28 => ?_, ?_⟩
    · obtain ⟨f28, b28⟩ := al w1
      rw [← h28] at f28 b28
      refine ⟨trivial, ⟨w28, _, hcv b28, trivial, s1, ?_⟩, ?_⟩
      · rw [eu]
        refine (hB w28).mono ?_
        rintro e w32 ⟨rfl, f32⟩
        exact ⟨_, rfl, trivial, s2, by rw [ans], (f1.trans' f28).trans' f32⟩
      · rw [eu]
        refine (hB w28).mono ?_
        rintro e w35 ⟨rfl, f35⟩
        exact ⟨_, rfl, trivial, w35, _, hcv (f35.keep b28 (by simp)), trivial, s1, s2, by rw [ans], (f1.trans' f28).trans' f35⟩
    · rw [eu]
      refine (hB w1).mono ?_
      rintro e w40 ⟨rfl, f40⟩
      refine ⟨_, rfl, trivial, fun w42 h42 => ?_⟩
      obtain ⟨f42, b42⟩ := al w40
      rw [← h42] at f42 b42
      exact ⟨trivial, w42, _, hcv b42, trivial, s1, s2, by rw [ans], (f1.trans' f40).trans' f42⟩
/-- A frame is read wherever it stands; one whose sum is another is refused. -/
theorem zread_stream {t s front q back : List UInt8} (h : DefM.Stream t s) {most : Nat} (h1 : s.length ≤ most) (hm : most ≤ 65536) (hq : q.length = 4) :
    ZlM.read (front ++ ([120, 1] ++ t ++ q ++ back)) (front.length : Int) (most : Int) = if q = bigB 4 (adler s) then (s, t.length + 6, 0) else ([], 0, 5) := by
  have hl : (front ++ ([120, 1] ++ t ++ q ++ back)).length = front.length + (6 + t.length + back.length) := by
    simp only [List.length_append, hq, List.length_cons, List.length_nil]; omega
  have hi : InfM.inflate (front ++ ([120, 1] ++ t ++ q ++ back)) ((front.length : Int) + 2) (most : Int) = (s, t.length, 0) := by
    have := DefM.stream_inflate h (front ++ [120, 1]) (q ++ back) hm
    rw [if_pos h1, List.length_append, show (([120, 1] : List UInt8).length) = 2 from rfl] at this
    rw [show (front.length : Int) + 2 = ((front.length + 2 : Nat) : Int) by omega]
    rw [← this]
    simp only [List.append_assoc]
  have hg0 : (front ++ ([120, 1] ++ t ++ q ++ back)).getD front.length 0 = 120 := by
    rw [List.getD_eq_getElem?_getD, List.getElem?_append_right (Nat.le_refl _), Nat.sub_self]; rfl
  have hg1 : (front ++ ([120, 1] ++ t ++ q ++ back)).getD (front.length + 1) 0 = 1 := by
    rw [List.getD_eq_getElem?_getD, List.getElem?_append_right (by omega), Nat.add_sub_cancel_left]; rfl
  have hd : ((front ++ ([120, 1] ++ t ++ q ++ back)).drop (front.length + 2 + t.length)).take 4 = q := by
    rw [show front ++ ([120, 1] ++ t ++ q ++ back) = (front ++ [120, 1] ++ t) ++ (q ++ back) by simp only [List.append_assoc]]
    rw [show front.length + 2 + t.length = (front ++ [120, 1] ++ t).length by simp only [List.length_append, List.length_cons, List.length_nil], List.drop_left, List.take_left' hq]
  unfold ZlM.read
  rw [hi, hl, Int.toNat_natCast, hg0, hg1]
  dsimp only
  rw [hd, if_neg (by omega), if_neg (by omega), if_neg (by decide), if_neg (by omega), if_neg (by omega)]
  by_cases he : q = bigB 4 (adler s)
  · rw [if_neg (fun hh => hh he), if_pos he]
  · rw [if_pos he, if_neg he]
/-- 'ZlibWrites'. -/
theorem writes6_walk (a0 a1 a2 : ByteArray) (a3 : Int) (h3 : -9223372036854775808 ≤ a3 ∧ a3 ≤ 9223372036854775807) (W : World) :
    Calls Try.prog F_cartularylaw06_ZlibWrites #[.string a0, .string a1, .string a2, .int .i64 a3] W fun e w' => e = .returned (.bool true) ∧ RowKit.Below W.heap.size W w' := by
  refine vc_cartularylaw06_ZlibWrites_ok (R := fun v w' => v = .bool true ∧ Fr (fun k => W.heap.size ≤ k) W w') ?_ (fun v w' h => ⟨by rw [h.1], h.2.below (Nat.le_refl _)⟩)
  have up : ∀ {w' : World}, Fr (fun _ => False) W w' → Fr (fun k => W.heap.size ≤ k) W w' := fun h => h.mono fun _ _ h => h.elim
  have hz : ∀ a b : ByteArray, (a ++ b).size = a.size + b.size := fun a b => by simp
  refine (few_spec a0 2000 W).mono ?_
  rintro e w2 ⟨rfl, hw⟩
  replace hw := hw.symm
  subst hw
  have hss := few_len5 a0 2000
  generalize (if a0.size > 2000 then a0.extract 0 2000 else a0) = s at hss
  have hsl : s.data.toList.length = s.size := by simp
  refine ⟨s, rfl, (few_spec a1 200 W).mono ?_⟩
  rintro e w5 ⟨rfl, hw⟩
  replace hw := hw.symm
  subst hw
  have hsf := few_len5 a1 200
  generalize (if a1.size > 200 then a1.extract 0 200 else a1) = f at hsf
  refine ⟨f, rfl, (zwrite_spec s (by omega) W).mono ?_⟩
  rintro e w8 ⟨rfl, hst, hlen, hf8⟩
  have hXl : (frameS (deflT s) s.data.toList).length = 6 + (deflT s).length := by
    unfold frameS; simp only [List.length_append, bigB_length, List.length_cons, List.length_nil]; omega
  have hXe : frameS (deflT s) s.data.toList = [120, 1] ++ deflT s ++ bigB 4 (adler s.data.toList) := rfl
  generalize frameS (deflT s) s.data.toList = X at hXl hXe
  have hXs : ByteArray.size ⟨X.toArray⟩ = X.length := size_mk X
  generalize deflT s = t at hst hlen hXl hXe
  refine ⟨_, rfl, (awake6_spec w8).mono ?_⟩
  rintro e w11 ⟨rfl, hf11⟩
  refine ⟨_, rfl, fun hh => (by cases hh), fun _ => (zplain_spec s (by omega) w11).mono ?_⟩
  rintro e w14 ⟨rfl, hf14⟩
  refine ⟨_, rfl, (rstored_spec s (by omega) w14).mono ?_⟩
  have hsl5 := storedS_len s.data.toList.length s.data.toList rfl
  rw [hsl] at hsl5
  generalize storedS s.data.toList = ST at hsl5
  have hSTs : ByteArray.size ⟨ST.toArray⟩ = ST.length := size_mk ST
  rintro e w17 ⟨rfl, hf17⟩
  refine ⟨_, rfl, (rframe_spec ⟨ST.toArray⟩ s (by omega) (by omega) w17).mono ?_⟩
  rw [data_mk]
  rintro e w20 ⟨rfl, hf20⟩
  have hfr20 := (((hf8.trans' hf11).trans' hf14).trans' hf17).trans' hf20
  refine ⟨_, rfl, fun hh => ?_, fun _ => ⟨fun hlt => ?_, fun _ => ⟨by omega, ?_⟩⟩⟩
  · rw [beq_self_eq_true] at hh; cases hh
  · have := of_decide_eq_true hlt; omega
  refine (few_spec a2 200 w20).mono ?_
  rintro e w23 ⟨rfl, hw⟩
  replace hw := hw.symm
  subst hw
  have hsg := few_len5 a2 200
  generalize (if a2.size > 200 then a2.extract 0 200 else a2) = g at hsg
  have hz2 : (f ++ ⟨X.toArray⟩ : ByteArray).size = f.size + X.length := by rw [hz, hXs]
  have hz3 : (f ++ ⟨X.toArray⟩ ++ g : ByteArray).size = f.size + X.length + g.size := by rw [hz, hz2]
  have hzd : (f ++ ⟨X.toArray⟩ ++ g : ByteArray).data.toList = f.data.toList ++ ([120, 1] ++ t ++ bigB 4 (adler s.data.toList) ++ g.data.toList) := by rw [data_app, data_app, data_mk, hXe, List.append_assoc]
  refine ⟨g, rfl, by omega, ?_⟩
  generalize f ++ ⟨X.toArray⟩ ++ g = Z at hz3 hzd ⊢
  refine (zread_spec Z (by omega) (f.size : Int) (s.size : Int) w20).mono ?_
  have hrd := zread_stream (front := f.data.toList) (q := bigB 4 (adler s.data.toList)) (back := g.data.toList) hst (most := s.size) (by omega) (by omega) (bigB_length 4 _)
  rw [if_pos rfl, show f.data.toList.length = f.size by simp] at hrd
  rw [hzd, hrd]
  rintro e w26 ⟨rfl, _, hf26⟩
  have hsame : (⟨s.data.toList.toArray⟩ : ByteArray) = s := bytes_ext (data_mk _)
  have hfr26 := hfr20.trans' hf26
  refine ⟨_, _, _, rfl, ?_⟩
  dsimp only
  rw [hsame]
  refine ⟨fun hh => ?_, fun _ => ⟨fun hh => ?_, fun _ => ⟨fun hh => (by cases hh), fun _ => ⟨fun _ => ⟨rfl, up hfr26⟩, fun h0 => ⟨fun _ => ⟨rfl, up hfr26⟩, fun h31 => ?_⟩⟩⟩⟩⟩
  · rw [beq_self_eq_true] at hh; cases hh
  · rw [hXs, hXl, show t.length + 6 = 6 + t.length by omega] at hh; simp at hh
  have h0 := of_decide_eq_false h0
  have h31 := of_decide_eq_false h31
  obtain ⟨bit, rfl⟩ : ∃ bit : Nat, a3 = (bit : Int) := ⟨a3.toNat, by omega⟩
  obtain ⟨w30, l31, hr30, ho30, hf30⟩ := bytes_of (P := Try.prog) (src := T_string) (dst := T_S_uint8) (e := T_uint8) (by kernel_rfl) (by kernel_rfl) (by kernel_rfl) ⟨X.toArray⟩ (by rw [hXs]; unfold maxLen; omega) w26
  rw [data_mk] at ho30
  have hl31 : l31.len = 6 + t.length := by rw [ho30.len]; simp [byteV, hXl]
  refine ⟨w30, l31, hr30, fun w32 d32 => ?_⟩
  have ho32 := ho30.keep (.drew (fun _ => False) d32) (by simp)
  have hb8 : bit / 8 ≤ 3 := by omega
  have e1 : IntKind.i64.wrap (IntKind.i64.wrap ((l31.len : Int) - 1) - IntKind.i64.wrap (Int.tdiv (bit : Int) 8)) = ((2 + t.length + (3 - bit / 8) : Nat) : Int) := by
    rw [hl31, Int.tdiv_eq_ediv_of_nonneg (by omega), wrap_i64 (x := ((6 + t.length : Nat) : Int) - 1) (by omega) (by omega), wrap_i64 (x := (bit : Int) / 8) (by omega) (by omega), wrap_i64 (by omega) (by omega)]; omega
  have e2 : Int.tmod (bit : Int) 8 = ((bit % 8 : Nat) : Int) := by rw [Int.tmod_eq_emod_of_nonneg (by omega)]; omega
  rw [e1, e2]
  have hj : bit % 8 < 8 := Nat.mod_lt _ (by decide)
  generalize hidx : 2 + t.length + (3 - bit / 8) = idx at *
  have hilt : idx < X.length := by omega
  obtain ⟨x, hx, hc, hw, hset⟩ := ho32.set (i := idx) (by simp [byteV]; omega)
  rw [Int.toNat_natCast, Nat.mul_one]
  have hcx : (byteV X)[idx]'(by simp [byteV]; omega) = .int .u8 ((X[idx].toNat : Nat) : Int) := by simp [byteV]
  rw [hcx] at hc
  refine ⟨by decide, ⟨by omega, by omega⟩, x, hx, _, hc, by decide, by omega, ⟨by omega, by omega⟩, x, hx, hw, fun w36 h36 => ?_⟩
  have ha := X[idx].toNat_lt
  have hm1 : 0 < 2 ^ (bit % 8) := Nat.two_pow_pos _
  have hm2 : 2 ^ (bit % 8) ≤ 2 ^ 7 := Nat.pow_le_pow_right (by decide) (by omega)
  have hc2 : (2 : Int) ^ (bit % 8) = ((2 ^ (bit % 8) : Nat) : Int) := by push_cast; rfl
  have e3 : IntKind.u8.wrap (((BitVec.ofInt 8 ((X[idx].toNat : Nat) : Int) ^^^ BitVec.ofInt 8 (IntKind.u8.wrap (1 * 2 ^ min (Int.toNat ((bit % 8 : Nat) : Int)) 8))).toNat : Nat) : Int) = ((X[idx].toNat ^^^ 2 ^ (bit % 8) : Nat) : Int) := by
    rw [Int.toNat_natCast, show min (bit % 8) 8 = bit % 8 by omega, Int.one_mul, hc2, wrap_u8 (x := ((2 ^ (bit % 8) : Nat) : Int)) (by omega) (by omega), xor_nat 8 _ _ (by omega) (by omega)]
    have := Nat.xor_lt_two_pow (n := 8) (show X[idx].toNat < 2 ^ 8 by omega) (show 2 ^ (bit % 8) < 2 ^ 8 by omega)
    rw [wrap_u8 (by omega) (by omega)]
  rw [e3] at h36
  have hvlt : X[idx].toNat ^^^ 2 ^ (bit % 8) < 256 := Nat.xor_lt_two_pow (n := 8) (by omega) (by omega)
  have hvne : X[idx].toNat ^^^ 2 ^ (bit % 8) ≠ X[idx].toNat := fun hh => by
    have h1 := congrArg (X[idx].toNat ^^^ ·) hh
    simp only [← Nat.xor_assoc, Nat.xor_self, Nat.zero_xor] at h1
    omega
  generalize hv : X[idx].toNat ^^^ 2 ^ (bit % 8) = v at h36 hvlt hvne
  obtain ⟨ho36, hf36⟩ := hset (.int .u8 (v : Int))
  rw [← h36] at ho36 hf36
  have hcv : (UInt8.ofNat v).toNat = v := by simp; omega
  rw [← hcv, byteV_set] at ho36
  have hl2 : (([120, 1] : List UInt8) ++ t).length = 2 + t.length := by rw [List.length_append]; rfl
  have hidx2 : idx - (2 + t.length) = 3 - bit / 8 := by omega
  have hX' : X.set idx (UInt8.ofNat v) = [120, 1] ++ t ++ (bigB 4 (adler s.data.toList)).set (3 - bit / 8) (UInt8.ofNat v) ++ [] := by
    rw [hXe, List.append_nil, List.set_append_right _ _ (by rw [hl2]; omega), hl2, hidx2]
  have hq : (bigB 4 (adler s.data.toList)).set (3 - bit / 8) (UInt8.ofNat v) ≠ bigB 4 (adler s.data.toList) := fun hh => by
    have hjl : 3 - bit / 8 < (bigB 4 (adler s.data.toList)).length := by rw [bigB_length]; omega
    have h1 : ((bigB 4 (adler s.data.toList)).set (3 - bit / 8) (UInt8.ofNat v))[3 - bit / 8]? = some (UInt8.ofNat v) := by rw [List.getElem?_set_self hjl]
    rw [hh] at h1
    have h2 : X[idx]? = some (UInt8.ofNat v) := by
      rw [hXe, List.getElem?_append_right (by rw [hl2]; omega), hl2, hidx2]
      exact h1
    rw [List.getElem?_eq_getElem hilt, Option.some.injEq] at h2
    rw [h2, hcv] at hvne
    exact hvne rfl
  have hrd2 := zread_stream (front := []) (q := (bigB 4 (adler s.data.toList)).set (3 - bit / 8) (UInt8.ofNat v)) (back := []) hst (most := s.size) (by omega) (by omega) (by rw [List.length_set, bigB_length])
  rw [if_neg hq, List.nil_append, ← hX'] at hrd2
  have hfr36 : Fr (fun _ => False) W w36 := ((hfr26.trans' hf30).trans' (.drew _ d32)).trans hf36 fun k hk ⟨y, hy, e⟩ => by have := (ho30.blk hy).1; have := hfr26.size; omega
  refine ⟨w36, ⟨(X.set idx (UInt8.ofNat v)).toArray⟩, bytes_str (e := T_uint8) (by kernel_rfl) (by kernel_rfl) (by kernel_rfl) l31.cap ho36.reads (by rw [ho36.len]; simp [byteV]), ?_⟩
  have hX's : ByteArray.size ⟨(X.set idx (UInt8.ofNat v)).toArray⟩ = X.length := by rw [size_mk, List.length_set]
  refine (zread_spec ⟨(X.set idx (UInt8.ofNat v)).toArray⟩ (by omega) 0 (s.size : Int) w36).mono ?_
  rw [data_mk, show (0 : Int) = ((([] : List UInt8).length : Nat) : Int) from rfl, hrd2]
  rintro e w40 ⟨rfl, _, hf40⟩
  exact ⟨_, _, _, rfl, fun _ => ⟨fun _ => ⟨rfl, up (hfr36.trans' hf40)⟩, fun hh => (by cases hh)⟩, fun hh => absurd hh (by decide +kernel)⟩
end Go.Proofs.Ytofejgaanpaieaa
