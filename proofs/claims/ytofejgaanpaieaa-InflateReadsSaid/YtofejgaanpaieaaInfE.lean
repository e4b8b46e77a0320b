/- A stored block. Conditions: the state is in order. -/
import Derived.Test.YtofejgaanpaieaaInfD
set_option linter.unusedVariables false
namespace Go.Proofs.Ytofejgaanpaieaa
open Go Vc BitsM HuffM Go.Proofs

theorem sbits_take (l : List UInt8) (k : Nat) : sbits (l.take k) = (sbits l).take (8 * k) := by
  by_cases h : k ≤ l.length
  · have h2 := sbits_append (l.take k) (l.drop k)
    rw [List.take_append_drop] at h2
    rw [h2, List.take_append_of_le_length (by rw [sbits_length, List.length_take]; omega), List.take_of_length_le (l := sbits (l.take k)) (by rw [sbits_length, List.length_take]; omega)]
  · rw [List.take_of_length_le (by omega), List.take_of_length_le (by rw [sbits_length]; omega)]
theorem extract_list (s : ByteArray) (i j : Nat) : (s.extract i j).data.toList = (s.data.toList.drop i).take (j - i) := by
  rw [ByteArray.data_extract, Array.toList_extract, List.extract_eq_take_drop]
theorem little_bits (s : ByteArray) (i j : Nat) : V (s.extract i j) (s.extract i j).size = num (((sbits s.data.toList).drop (8 * i)).take (8 * (j - i))) := by
  rw [← num_sbits, extract_list, sbits_take, sbits_drop]
theorem bytesAt_of (B : List Bool) (n p : Nat) : InfM.bytesAt B n p = bytesOf (B.drop p) n := by
  unfold InfM.bytesAt bytesOf
  refine List.map_congr_left fun i _ => ?_
  rw [← List.drop_drop, ← byteOf_nat, UInt8.ofNat_toNat]
theorem bytesAt_sbits (s : ByteArray) (q n : Nat) : InfM.bytesAt (sbits s.data.toList) n (8 * q) = (s.data.toList.drop q).take n ∨ s.size < q + n := by
  by_cases h : q + n ≤ s.size
  · left
    have := bytesOf_sbits [] 0 rfl (s.data.toList.drop q) n (by rw [List.length_drop]; simp; omega)
    rw [bytesAt_of, ← sbits_drop]
    simpa [bytesOf] using this
  · right; omega
theorem xor_ones (n : Nat) (h : n < 65536) : n ^^^ 65535 = 65535 - n := by
  have h2 := congrArg BitVec.toNat (BitVec.xor_allOnes (x := BitVec.ofNat 16 n))
  rw [BitVec.toNat_xor, BitVec.toNat_not, BitVec.toNat_allOnes, BitVec.toNat_ofNat, Nat.mod_eq_of_lt h] at h2
  simpa using h2

theorem num16 (L : List Bool) : num (L.take 16) < 65536 := by
  have h1 := num_lt (L.take 16)
  have h2 : (L.take 16).length ≤ 16 := by rw [List.length_take]; omega
  have h3 := Nat.pow_le_pow_right (n := 2) (by decide) h2
  omega
/-- A stored block. -/
theorem stored_spec {w : World} {base b rb off p most : Nat} {sl : Sl} {s : ByteArray} {out : List UInt8} (h : St w base b rb sl s off p out most) :
    Calls Try.prog F_inflate_state_stored #[.pointer (some ⟨b, 0, none⟩)] w fun e w' =>
      ∃ err : Int, e = .returned (.int .i64 err) ∧ Rs w w' base b rb sl s off most (InfM.stored most (bitsFrom s off) p out) err := by
  refine vc_inflate_state_stored_ok (R := fun v w' => ∃ err : Int, v = .int .i64 err ∧ Rs w w' base b rb sl s off most (InfM.stored most (bitsFrom s off) p out) err) ?_ (fun v w' ⟨e, h⟩ => ⟨e, by rw [h.1], h.2⟩)
  have rsub : ∀ {w1 w2 : World}, Fr (· = rb) w1 w2 → Fr (SX b rb sl) w1 w2 := fun hf => hf.mono fun k _ hk => .inr (.inl hk)
  obtain ⟨at_, hat⟩ := h.rd
  have hok := hat.ok
  have hsz := hat.sz
  clear hat
  have hle := h.le
  have hlen := bitsFrom_length s off
  obtain ⟨q, hq⟩ : ∃ q, (p + 7) / 8 = q := ⟨_, rfl⟩
  have hup : up8 (8 * off + p) = 8 * (off + q) := by unfold up8; omega
  have hup2 : up8 (8 * (off + q) + 32) = 8 * (off + q + 4) := by unfold up8; omega
  have hn16 : ∀ k, num (((bitsFrom s off).drop (8 * k)).take 16) = V (s.extract (off + k) (off + k + 2)) (s.extract (off + k) (off + k + 2)).size := fun k => by
    rw [little_bits, bitsFrom_drop, ← Nat.mul_add, show off + k + 2 - (off + k) = 2 by omega]
  have hst : InfM.stored most (bitsFrom s off) p out = (if 8 * q + 32 ≤ (bitsFrom s off).length then
      if V (s.extract (off + q) (off + q + 2)) (s.extract (off + q) (off + q + 2)).size + V (s.extract (off + (q + 2)) (off + (q + 2) + 2)) (s.extract (off + (q + 2)) (off + (q + 2) + 2)).size ≠ 65535 then .error 3
      else if 8 * q + 32 + 8 * V (s.extract (off + q) (off + q + 2)) (s.extract (off + q) (off + q + 2)).size ≤ (bitsFrom s off).length then
        if most < out.length + V (s.extract (off + q) (off + q + 2)) (s.extract (off + q) (off + q + 2)).size then .error 2
        else .ok (out ++ InfM.bytesAt (bitsFrom s off) (V (s.extract (off + q) (off + q + 2)) (s.extract (off + q) (off + q + 2)).size) (8 * q + 32), 8 * q + 32 + 8 * V (s.extract (off + q) (off + q + 2)) (s.extract (off + q) (off + q + 2)).size)
      else if most < out.length + ((bitsFrom s off).length - (8 * q + 32)) / 8 then .error 2 else .error 6
    else .error 6) := by
    unfold InfM.stored
    simp only [hq, Nat.mul_comm q 8, hn16, show 8 * q + 16 = 8 * (q + 2) by omega]
  rw [hst]
  clear hst
  have hn1 : V (s.extract (off + q) (off + q + 2)) (s.extract (off + q) (off + q + 2)).size < 65536 := by
    rw [← hn16]; exact num16 _
  have hn2 : V (s.extract (off + (q + 2)) (off + (q + 2) + 2)) (s.extract (off + (q + 2)) (off + (q + 2) + 2)).size < 65536 := by
    rw [← hn16]; exact num16 _
  refine ⟨_, h.c0, ?_⟩
  refine (rbytes_spec h.rd 4 (by omega)).mono ?_
  rw [hup, Nat.mul_div_cancel_left _ (by decide : 0 < 8)]
  have hl1 : left s (8 * (off + q)) = 8 * s.size - 8 * (off + q) := rfl
  rintro e w3 (⟨hyes, rfl, hr, hf3⟩ | ⟨hno, rfl, hr, hf3⟩)
  rotate_left
  · rw [if_neg (by omega)]
    exact ⟨_, _, rfl, fun _ => ⟨6, rfl, rsub hf3, rfl, by decide⟩, fun hh => by cases hh⟩
  rw [if_pos (by omega)]
  have h3 : St w3 base b rb sl s off (8 * q + 32) out most := h.read hf3 (by rw [show 8 * off + (8 * q + 32) = 8 * (off + q) + 8 * (4 : Int).toNat by simp; omega]; exact hr)
  have hsz4 : (s.extract (off + q) (off + q + (4 : Int).toNat)).size = 4 := by simp; omega
  have hh1 : (s.extract (off + q) (off + q + (4 : Int).toNat)).extract 0 (Int.toNat 2) = s.extract (off + q) (off + q + 2) := by
    rw [ByteArray.extract_extract]; congr 1; simp
  have hh2 : (s.extract (off + q) (off + q + (4 : Int).toNat)).extract (Int.toNat 2) (s.extract (off + q) (off + q + (4 : Int).toNat)).size = s.extract (off + (q + 2)) (off + (q + 2) + 2) := by
    rw [hsz4, ByteArray.extract_extract]; congr 1; simp; omega
  refine ⟨_, _, rfl, fun hh => (by cases hh), fun _ => ⟨⟨by decide, by omega⟩, ?_⟩⟩
  rw [hh1, hh2]
  have hz1 : (s.extract (off + q) (off + q + 2)).size ≤ 8 := by simp; omega
  have hz2 : (s.extract (off + (q + 2)) (off + (q + 2) + 2)).size ≤ 8 := by simp; omega
  refine (little_spec _ hz1 w3).mono ?_
  rintro e w7 ⟨rfl, hw7⟩
  replace hw7 := hw7.symm
  subst hw7
  refine ⟨_, rfl, ⟨by decide, by omega⟩, ?_⟩
  refine (little_spec _ hz2 w3).mono ?_
  rintro e w10 ⟨rfl, hw10⟩
  replace hw10 := hw10.symm
  subst hw10
  refine ⟨_, rfl, ?_⟩
  generalize V (s.extract (off + q) (off + q + 2)) (s.extract (off + q) (off + q + 2)).size = n at hn1 ⊢
  generalize V (s.extract (off + (q + 2)) (off + (q + 2) + 2)) (s.extract (off + (q + 2)) (off + (q + 2) + 2)).size = m at hn2 ⊢
  have en : IntKind.i64.wrap (n : Int) = (n : Int) := wrap_i64 (by omega) (by omega)
  have em : IntKind.i64.wrap (m : Int) = (m : Int) := wrap_i64 (by omega) (by omega)
  have ex : IntKind.i64.wrap (((BitVec.ofInt 64 (n : Int) ^^^ BitVec.ofInt 64 65535).toNat : Nat) : Int) = ((65535 - n : Nat) : Int) := by
    have := xor_nat 64 n 65535 (by omega) (by decide)
    rw [show ((65535 : Nat) : Int) = 65535 from rfl] at this
    rw [this, xor_ones n hn1, wrap_i64 (by omega) (by omega)]
  rw [en, em, ex]
  refine ⟨fun hne => ?_, fun heq => ?_⟩
  · have : ((65535 - n : Nat) : Int) ≠ (m : Int) := by simpa using hne
    rw [if_pos (by omega)]
    exact ⟨3, rfl, rsub hf3, rfl, by decide⟩
  have heq : ((65535 - n : Nat) : Int) = (m : Int) := by simpa using heq
  rw [if_neg (by omega)]
  refine ⟨_, h3.c0, ?_⟩
  refine (rbytes_spec h3.rd (n : Int) (by omega)).mono ?_
  rw [show 8 * off + (8 * q + 32) = 8 * (off + q) + 32 by omega, hup2, Nat.mul_div_cancel_left _ (by decide : 0 < 8), Int.toNat_natCast]
  have hl2 : left s (8 * (off + q + 4)) = 8 * s.size - 8 * (off + q + 4) := rfl
  have fin_ : ∀ (ok : Bool) (k : Nat) (w14 w32 : World) (t : ByteArray) (err : Nat) (r : InfM.E (List UInt8)), Fr (· = rb) w w32 → off + q + 4 + k ≤ s.size → t = s.extract (off + q + 4) (off + q + 4 + k) → St w32 base b rb sl s off (8 * q + 32 + 8 * k) out most →
      (most < out.length + k → r = .error 2) → (¬ most < out.length + k → ok = true → r = .ok (out ++ InfM.bytesAt (bitsFrom s off) k (8 * q + 32), 8 * q + 32 + 8 * k)) → (¬ most < out.length + k → ok = false → r = .error 6) →
      ∃ n33, w32.cell? ⟨b, 2, none⟩ = some (.int .i64 n33) ∧ ∃ l34 : Sl, w32.cell? ⟨b, 1, none⟩ = some (.slice l34.a l34.len l34.cap) ∧ ∀ w35, Drew w32 w35 →
        ((decide ((t.size : Int) > IntKind.i64.wrap (n33 - (l34.len : Int))) = true → ∃ err : Int, Value.int .i64 2 = .int .i64 err ∧ Rs w w35 base b rb sl s off most r err) ∧
         (decide ((t.size : Int) > IntKind.i64.wrap (n33 - (l34.len : Int))) = false → ∃ l36 : Sl, w35.cell? ⟨b, 1, none⟩ = some (.slice l36.a l36.len l36.cap) ∧ ∃ w37, ∃ l38 : Sl,
            (Builtin.append_ #[T_S_uint8, T_string] T_S_uint8 #[.slice l36.a l36.len l36.cap, .string t]).run Try.prog w35 = .ok (.slice l38.a l38.len l38.cap) w37 ∧ (Wr w37 ⟨b, 1, none⟩ ∧
              ∀ w39, w39 = w37.setCell ⟨b, 1, none⟩ (.slice l38.a l38.len l38.cap) →
                (((!ok) = true → ∃ err : Int, Value.int .i64 6 = .int .i64 err ∧ Rs w w39 base b rb sl s off most r err) ∧
                 ((!ok) = false → ∃ err : Int, Value.int .i64 0 = .int .i64 err ∧ Rs w w39 base b rb sl s off most r err))))) := by
    intro ok k w14 w32 t err r hf32 hk ht h32 hr2 hr0 hr6
    have htsz : t.size = k := by rw [ht]; simp; omega
    have hfit := h32.fit
    have hsm := h32.small
    refine ⟨_, h32.c2, _, h32.c1, fun w35 d35 => ?_⟩
    have h35 := h32.drew d35
    have hf35 : Fr (· = rb) w w35 := hf32.trans' (.drew _ d35)
    rw [h32.len, wrap_i64 (by omega) (by omega), htsz]
    refine ⟨fun hgt => ?_, fun hle => ?_⟩
    · have hgt := of_decide_eq_true hgt
      rw [hr2 (by omega)]
      exact ⟨2, rfl, rsub hf35, rfl, by decide⟩
    · have hle := of_decide_eq_false hle
      have hnl : ¬ most < out.length + k := by omega
      have hbl : (byteV out).length = out.length := List.length_map _
      obtain ⟨w37, l38, hr, ho, hf, hs⟩ := append_str elByte (by kernel_rfl : Try.prog.underlying T_string = some .string) h35.own t (by rw [hbl]; omega) h35.hbase
      have htl : t.data.toList = (s.data.toList.drop (off + q + 4)).take k := by rw [ht, extract_list, show off + q + 4 + k - (off + q + 4) = k by omega]
      have hba : InfM.bytesAt (bitsFrom s off) k (8 * q + 32) = t.data.toList := by
        rw [bytesAt_of, bitsFrom_drop, show 8 * off + (8 * q + 32) = 8 * (off + q + 4) by omega, ← bytesAt_of, htl]
        exact (bytesAt_sbits s (off + q + 4) k).resolve_right (by omega)
      rw [show byteV out ++ byteV t.data.toList = byteV (out ++ t.data.toList) by simp [byteV]] at ho
      have hlt : (out ++ t.data.toList).length ≤ most := by rw [List.length_append]; simp [htsz]; omega
      refine ⟨_, h35.c1, w37, l38, hr, (h35.more ho hf rfl hlt).1, fun w39 h39 => ?_⟩
      obtain ⟨_, hst, hfr⟩ := h35.more ho hf h39 hlt
      refine ⟨fun hok => ?_, fun hok => ?_⟩
      · rw [hr6 hnl (by simpa using hok)]
        exact ⟨6, rfl, (rsub hf35).trans' hfr, rfl, by decide⟩
      · rw [hr0 hnl (by simpa using hok), hba]
        refine ⟨0, rfl, (rsub hf35).trans' hfr, rfl, l38, hst, fun y hy => ?_⟩
        rcases hs y hy with hz | hn
        · exact .inl hz
        · exact .inr (Nat.le_trans hf35.size hn)
  rintro e w14 (⟨hyes, rfl, hr14, hf14⟩ | ⟨hno, rfl, hr14, hf14⟩)
  · rw [if_pos (by omega)]
    have h14 : St w14 base b rb sl s off (8 * q + 32 + 8 * n) out most := h3.read hf14 (by rw [show 8 * off + (8 * q + 32 + 8 * n) = 8 * (off + q + 4) + 8 * n by omega]; exact hr14)
    refine ⟨_, _, rfl, fun t w32 => t = s.extract (off + q + 4) (off + q + 4 + n) ∧ w32 = w14, ⟨⟨fun hh => (by cases hh), fun _ => ⟨rfl, rfl⟩⟩, ?_⟩⟩
    rintro t w32 ⟨ht, rfl⟩
    exact fin_ true n w32 w32 t 0 _ (hf3.trans' hf14) (by omega) ht h14 (fun h => if_pos h) (fun h _ => if_neg h) (fun _ h => by cases h)
  · rw [if_neg (by omega)]
    have h14 : St w14 base b rb sl s off (8 * q + 32) out most := h3.read hf14 (by rw [show 8 * off + (8 * q + 32) = 8 * (off + q + 4) by omega]; exact hr14)
    obtain ⟨k, hk⟩ : ∃ k, ((bitsFrom s off).length - (8 * q + 32)) / 8 = k := ⟨_, rfl⟩
    refine ⟨_, _, rfl, fun t w32 => t = s.extract (off + q + 4) (off + q + 4 + k) ∧ St w32 base b rb sl s off (8 * q + 32 + 8 * k) out most ∧ Fr (· = rb) w w32, ⟨⟨fun _ w18 d18 => ?_, fun hh => (by cases hh)⟩, ?_⟩⟩
    · have h18 := h14.drew d18
      refine ⟨fun w' => w'.heap[b]? = w18.heap[b]?, rfl, _, fun w' hw' => (by rw [cell_blk (hw'.trans h18.blk)]; rfl), _, fun w' hw' => (by rw [cell_blk (hw'.trans h18.blk)]; rfl), ?_⟩
      refine (left_spec h18.rd).mono ?_
      rintro e w25 ⟨rfl, d25⟩
      have h25 := h18.drew d25
      have hl3 : left s (8 * off + (8 * q + 32)) = 8 * s.size - (8 * off + (8 * q + 32)) := rfl
      have e8 : IntKind.i64.wrap (Int.tdiv ((left s (8 * off + (8 * q + 32)) : Nat) : Int) 8) = (k : Int) := by
        rw [Int.tdiv_eq_ediv_of_nonneg (by omega), wrap_i64 (by omega) (by omega)]; omega
      refine ⟨_, rfl, (by show w25.heap[b]? = w18.heap[b]?; rw [d25.heap]), by decide, ?_⟩
      rw [e8]
      refine (rbytes_spec h25.rd (k : Int) (by omega)).mono ?_
      rw [show 8 * off + (8 * q + 32) = 8 * (off + q) + 32 by omega, hup2, Nat.mul_div_cancel_left _ (by decide : 0 < 8), Int.toNat_natCast]
      rintro e w28 (⟨hyes, rfl, hr28, hf28⟩ | ⟨hno', rfl, hr28, hf28⟩)
      · have h28 : St w28 base b rb sl s off (8 * q + 32 + 8 * k) out most := h25.read hf28 (by rw [show 8 * off + (8 * q + 32 + 8 * k) = 8 * (off + q + 4) + 8 * k by omega]; exact hr28)
        refine ⟨_, _, rfl, ?_, rfl, h28, (((hf3.trans' hf14).trans' (.drew _ d18)).trans' (.drew _ d25)).trans' hf28⟩
        exact (hf28.blk b (lt_blk h25.blk) (fun e => h.ne e.symm)).trans (by rw [d25.heap])
      · omega
    · rintro t w32 ⟨ht, h32, hf32⟩
      rw [hk]
      exact fin_ false k w32 w32 t 0 _ hf32 (by omega) ht h32 (fun h => if_pos h) (fun _ h => by cases h) (fun h _ => if_neg h)
end Go.Proofs.Ytofejgaanpaieaa
