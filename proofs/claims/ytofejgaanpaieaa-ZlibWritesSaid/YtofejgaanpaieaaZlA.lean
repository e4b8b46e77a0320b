/- The frame of RFC 1950: its head and its reading, of the program and of the reference. Conditions: bytes are bytes; the text is no longer than a slice may be. -/
import Derived.Test.YtofejgaanpaieaaInfQ
import Derived.Test.YtofejgaanpaieaaInfN
import Derived.Test.YtofejgaanpaieaaSumA
import Derived.Test.YtofejgaanpaieaaInfR
import Derived.Test.YtofejgaanpaieaaGenB
import Derived.Laws.Strings
set_option linter.unusedVariables false
namespace ZlM
open BitsM SumM Go.Proofs.Ytofejgaanpaieaa
/-- Is it a head? -/
def head (a b : Nat) : Bool := a % 16 == 8 && (decide (a / 16 ≤ 7) && ((256 * a + b) % 31 == 0 && b / 32 % 2 == 0))
/-- The frame at a place: what it says, its bytes, the error's number. -/
noncomputable def read (s : List UInt8) (at_ most : Int) : List UInt8 × Nat × Nat :=
  if at_ < 0 ∨ (s.length : Int) < at_ ∨ most < 0 ∨ 65536 < most then ([], 0, 1)
  else if s.length < at_.toNat + 2 then ([], 0, 6)
  else if head (s.getD at_.toNat 0).toNat (s.getD (at_.toNat + 1) 0).toNat = false then ([], 0, 3)
  else if (InfM.inflate s (at_ + 2) most).2.2 ≠ 0 then ([], 0, (InfM.inflate s (at_ + 2) most).2.2)
  else if s.length < at_.toNat + 2 + (InfM.inflate s (at_ + 2) most).2.1 + 4 then ([], 0, 6)
  else if (s.drop (at_.toNat + 2 + (InfM.inflate s (at_ + 2) most).2.1)).take 4 ≠ bigB 4 (adler (InfM.inflate s (at_ + 2) most).1) then ([], 0, 5)
  else ((InfM.inflate s (at_ + 2) most).1, (InfM.inflate s (at_ + 2) most).2.1 + 6, 0)
/-- No more is taken than there is. -/
theorem inf_le {most : Nat} {B : List Bool} {out : List UInt8} {p : Nat} (h : InfM.inf most B = .ok (out, p)) : p ≤ B.length := by
  unfold InfM.inf at h
  have hc := InfM.blocks_cut (most := most) (Nat.le_refl B.length) (B.length + 1) (B.length + 1) 0 [] (Nat.zero_le _) (by omega) out p h
  rw [List.take_length, h] at hc
  split at hc
  · assumption
  · cases hc
theorem inflate_le {s : List UInt8} {at_ most : Int} (h : (InfM.inflate s at_ most).2.2 = 0) : at_.toNat + (InfM.inflate s at_ most).2.1 ≤ s.length ∧ 0 ≤ at_ := by
  unfold InfM.inflate at h ⊢
  split at h
  · cases h
  · rename_i hc
    rw [if_neg hc]
    cases hi : InfM.inf most.toNat (sbits (s.drop at_.toNat)) with
    | error e =>
      dsimp only
      omega
    | ok x =>
      obtain ⟨out, p⟩ := x
      have := inf_le hi
      rw [sbits_length, List.length_drop] at this
      dsimp only
      omega
theorem inflate_len {s : List UInt8} {at_ most : Int} (h : (InfM.inflate s at_ most).2.2 = 0) : ((InfM.inflate s at_ most).1.length : Int) ≤ 65536 := by
  unfold InfM.inflate at h ⊢
  split at h
  · cases h
  · rename_i hc
    rw [if_neg hc]
    cases hi : InfM.inf most.toNat (sbits (s.drop at_.toNat)) with
    | error e => dsimp only; decide
    | ok x =>
      obtain ⟨out, p⟩ := x
      dsimp only
      unfold InfM.inf at hi
      rcases InfM.blocks_good (Nat.le_refl most.toNat) (sbits (s.drop at_.toNat)) ((sbits (s.drop at_.toNat)).length + 1) 0 [] (Nat.zero_le _) with hg | ⟨_, hg⟩
      · rw [hi] at hg; cases hg
      · have := hg _ _ hi
        omega
theorem read_bad {s : List UInt8} {at_ most : Int} (h : (read s at_ most).2.2 ≠ 0) : (read s at_ most).1 = [] ∧ (read s at_ most).2.1 = 0 := by
  unfold read at h ⊢
  generalize InfM.inflate s (at_ + 2) most = q at h ⊢
  split
  · exact ⟨rfl, rfl⟩
  rename_i h1; rw [if_neg h1] at h
  split
  · exact ⟨rfl, rfl⟩
  rename_i h2; rw [if_neg h2] at h
  split
  · exact ⟨rfl, rfl⟩
  rename_i h3; rw [if_neg h3] at h
  split
  · exact ⟨rfl, rfl⟩
  rename_i h4; rw [if_neg h4] at h
  split
  · exact ⟨rfl, rfl⟩
  rename_i h5; rw [if_neg h5] at h
  split
  · exact ⟨rfl, rfl⟩
  rename_i h6; rw [if_neg h6] at h
  exact absurd rfl h
theorem read_ok {s : List UInt8} {most : Int} (h : (read s 0 most).2.2 = 0) : 2 ≤ s.length ∧ head (s.getD 0 0).toNat (s.getD 1 0).toNat = true ∧ (InfM.inflate s 2 most).2.2 = 0 ∧
    (read s 0 most).1 = (InfM.inflate s 2 most).1 ∧ (read s 0 most).2.1 = (InfM.inflate s 2 most).2.1 + 6 ∧ (InfM.inflate s 2 most).2.1 + 6 ≤ s.length := by
  unfold read at h ⊢
  rw [show (0 : Int) + 2 = 2 from rfl, show (0 : Int).toNat = 0 from rfl, Nat.zero_add] at h ⊢
  generalize InfM.inflate s 2 most = q at h ⊢
  split at h
  · cases h
  rename_i h1
  split at h
  · cases h
  rename_i h2
  split at h
  · cases h
  rename_i h3
  split at h
  · rename_i h4; exact absurd h h4
  rename_i h4
  split at h
  · cases h
  rename_i h5
  split at h
  · cases h
  rename_i h6
  rw [if_neg h1, if_neg h2, if_neg h3, if_neg h4, if_neg h5, if_neg h6]
  exact ⟨by omega, by simpa using h3, by omega, rfl, rfl, by omega⟩
/-- How many heads there are with this first byte and a second one below k. -/
def cnt (a : Nat) : Nat → Nat
  | 0 => 0
  | k + 1 => cnt a k + (if head a k = true then 1 else 0)
theorem cnt_all : ∀ a, a < 256 → ((a % 16 = 8 ∧ a / 16 ≤ 7) ↔ 0 < cnt a 256) ∧ cnt a 256 ≤ 5 := by decide +kernel
end ZlM
namespace Go.Proofs.Ytofejgaanpaieaa
open Go Vc BitsM SumM Go.Proofs

theorem and32 : ∀ b, b < 256 → ((b &&& 32 == 0) = (b / 32 % 2 == 0)) := by decide +kernel
theorem zand15 (a : Nat) (ha : a < 256) : IntKind.u8.wrap (((BitVec.ofInt 8 (a : Int) &&& BitVec.ofInt 8 15).toNat : Nat) : Int) = ((a % 16 : Nat) : Int) := by
  have := and_nat 8 a 15 (by omega) (by decide)
  rw [show ((15 : Nat) : Int) = 15 from rfl, show a &&& 15 = a % 16 from and_mask a 4] at this
  rw [this, wrap_u8 (by omega) (by omega)]
theorem zand32 (b : Nat) (hb : b < 256) : (IntKind.u8.wrap (((BitVec.ofInt 8 (b : Int) &&& BitVec.ofInt 8 32).toNat : Nat) : Int) == 0) = (b / 32 % 2 == 0) := by
  have := and_nat 8 b 32 (by omega) (by decide)
  rw [show ((32 : Nat) : Int) = 32 from rfl] at this
  have h2 : b &&& 32 < 256 := Nat.lt_of_le_of_lt Nat.and_le_left hb
  rw [this, wrap_u8 (by omega) (by omega), ← and32 b hb, Bool.eq_iff_iff]
  simp only [beq_iff_eq]; omega
theorem zshr4 (a : Nat) : Int.fdiv (a : Int) (2 ^ min (Int.toNat 4) 8) = ((a / 16 : Nat) : Int) := by
  rw [show (2 : Int) ^ min (Int.toNat 4) 8 = ((16 : Nat) : Int) from rfl, Int.fdiv_eq_ediv_of_nonneg _ (Int.natCast_nonneg _), ← Int.natCast_ediv]
/-- 'Head'. -/
theorem zhead_spec (a b : Nat) (ha : a < 256) (hb : b < 256) (w : World) :
    Calls Try.prog F_zlib_Head #[.int .u8 (a : Int), .int .u8 (b : Int)] w fun e w' => e = .returned (.bool (ZlM.head a b)) ∧ w' = w := by
  refine vc_zlib_Head_ok (R := fun v w' => v = .bool (ZlM.head a b) ∧ w' = w) ?_ (fun v w' h => ⟨by rw [h.1], h.2⟩)
  have e1 : Int.tmod (IntKind.i64.wrap (((BitVec.ofInt 64 (IntKind.i64.wrap (IntKind.i64.wrap (a : Int) * 2 ^ min (Int.toNat 8) 64)) ||| BitVec.ofInt 64 (IntKind.i64.wrap (b : Int))).toNat : Nat) : Int)) 31 = (((256 * a + b) % 31 : Nat) : Int) := by
    have hor : 2 ^ 8 * a ||| b = 2 ^ 8 * a + b := (Nat.two_pow_add_eq_or_of_lt hb _).symm
    rw [wrap_i64 (x := (a : Int)) (by omega) (by omega), show (a : Int) * 2 ^ min (Int.toNat 8) 64 = ((2 ^ 8 * a : Nat) : Int) by
      rw [show (2 : Int) ^ min (Int.toNat 8) 64 = ((2 ^ 8 : Nat) : Int) from rfl, ← Int.natCast_mul, Nat.mul_comm],
      wrap_i64 (x := ((2 ^ 8 * a : Nat) : Int)) (by omega) (by omega), wrap_i64 (x := (b : Int)) (by omega) (by omega), or_nat 64 _ _ (by omega) (by omega), hor, wrap_i64 (by omega) (by omega), Int.tmod_eq_emod_of_nonneg (by omega)]
    omega
  rw [vc_zlib_Head, zand15 a ha, zshr4, e1, zand32 b hb]
  unfold ZlM.head
  refine ⟨fun h1 => ⟨by decide, fun h2 => ⟨by decide, by decide, fun h3 => ?_, fun h3 => ?_⟩, fun h2 => ?_⟩, fun h1 => ?_⟩
  · have h1 : a % 16 = 8 := by have := eq_of_beq h1; omega
    have h2 := of_decide_eq_true h2
    have h3 : (256 * a + b) % 31 = 0 := by have := eq_of_beq h3; omega
    rw [h1, h3, decide_eq_true (show a / 16 ≤ 7 by omega)]
    exact ⟨rfl, rfl⟩
  · have h3 : ((256 * a + b) % 31 == 0) = false := by rw [Bool.eq_false_iff] at h3 ⊢; intro hh; have := eq_of_beq hh; exact h3 (by rw [this]; rfl)
    rw [h3]
    exact ⟨by simp, rfl⟩
  · have h2 := of_decide_eq_false h2
    rw [decide_eq_false (show ¬ a / 16 ≤ 7 by omega)]
    exact ⟨by simp, rfl⟩
  · have h1 : (a % 16 == 8) = false := by rw [Bool.eq_false_iff] at h1 ⊢; intro hh; have := eq_of_beq hh; exact h1 (by rw [this]; rfl)
    rw [h1]
    exact ⟨by simp, rfl⟩
/-- The reference's 'Head'. -/
theorem rhead_spec (a b : Nat) (ha : a < 256) (hb : b < 256) (w : World) :
    Calls Try.prog F_cartularyref06_Head #[.int .i64 (a : Int), .int .i64 (b : Int)] w fun e w' => e = .returned (.bool (ZlM.head a b)) ∧ w' = w := by
  refine vc_cartularyref06_Head_ok (R := fun v w' => v = .bool (ZlM.head a b) ∧ w' = w) ?_ (fun v w' h => ⟨by rw [h.1], h.2⟩)
  have e0 : Int.tmod (a : Int) 16 = ((a % 16 : Nat) : Int) := by rw [Int.tmod_eq_emod_of_nonneg (by omega)]; omega
  have e1 : IntKind.i64.wrap (Int.tdiv (a : Int) 16) = ((a / 16 : Nat) : Int) := by rw [Int.tdiv_eq_ediv_of_nonneg (by omega), wrap_i64 (by omega) (by omega)]; omega
  have e2 : Int.tmod (IntKind.i64.wrap (IntKind.i64.wrap (256 * (a : Int)) + (b : Int))) 31 = (((256 * a + b) % 31 : Nat) : Int) := by
    rw [wrap_i64 (x := 256 * (a : Int)) (by omega) (by omega), wrap_i64 (by omega) (by omega), Int.tmod_eq_emod_of_nonneg (by omega)]; omega
  have e3 : (Int.tmod (IntKind.i64.wrap (Int.tdiv (b : Int) 32)) 2 == 0) = (b / 32 % 2 == 0) := by
    rw [Int.tdiv_eq_ediv_of_nonneg (by omega), wrap_i64 (by omega) (by omega), Int.tmod_eq_emod_of_nonneg (by omega), Bool.eq_iff_iff]
    simp only [beq_iff_eq]; omega
  rw [vc_cartularyref06_Head, e0, e1, e2, e3]
  unfold ZlM.head
  refine ⟨by decide, fun h1 => ⟨by decide, fun h2 => ⟨by decide, fun h3 => ⟨by decide, by decide, ?_⟩, fun h3 => ?_⟩, fun h2 => ?_⟩, fun h1 => ?_⟩
  · have h1 : a % 16 = 8 := by have := eq_of_beq h1; omega
    have h2 := of_decide_eq_true h2
    have h3 : (256 * a + b) % 31 = 0 := by have := eq_of_beq h3; omega
    rw [h1, h3, decide_eq_true (show a / 16 ≤ 7 by omega)]
    exact ⟨rfl, rfl⟩
  · have h3 : ((256 * a + b) % 31 == 0) = false := by rw [Bool.eq_false_iff] at h3 ⊢; intro hh; have := eq_of_beq hh; exact h3 (by rw [this]; rfl)
    rw [h3]
    exact ⟨by simp, rfl⟩
  · have h2 := of_decide_eq_false h2
    rw [decide_eq_false (show ¬ a / 16 ≤ 7 by omega)]
    exact ⟨by simp, rfl⟩
  · have h1 : (a % 16 == 8) = false := by rw [Bool.eq_false_iff] at h1 ⊢; intro hh; have := eq_of_beq hh; exact h1 (by rw [this]; rfl)
    rw [h1]
    exact ⟨by simp, rfl⟩
theorem byt_getD (s : ByteArray) (i : Nat) : byt s i = (s.data.toList.getD i 0).toNat := by
  unfold byt; rw [List.getD_eq_getElem?_getD]
/-- 'Read'. -/
theorem zread_spec (s : ByteArray) (hs : s.size ≤ 100000000) (at_ most : Int) (w : World) :
    Calls Try.prog F_zlib_Read #[.string s, .int .i64 at_, .int .i64 most] w fun e w' => e = .returned (ans3 (ZlM.read s.data.toList at_ most)) ∧
      ((ZlM.read s.data.toList at_ most).2.2 = 0 → ((ZlM.read s.data.toList at_ most).1.length : Int) ≤ most) ∧ Fr (fun _ => False) w w' := by
  refine vc_zlib_Read_ok (R := fun v w' => v = ans3 (ZlM.read s.data.toList at_ most) ∧ ((ZlM.read s.data.toList at_ most).2.2 = 0 → ((ZlM.read s.data.toList at_ most).1.length : Int) ≤ most) ∧ Fr (fun _ => False) w w') ?_ (fun v w' h => ⟨by rw [h.1], h.2⟩)
  have hsl : s.data.toList.length = s.size := by simp
  obtain ⟨r, hr⟩ : ∃ r, ZlM.read s.data.toList at_ most = r := ⟨_, rfl⟩
  rw [hr]
  unfold ZlM.read at hr
  rw [hsl] at hr
  have bad : ∀ {e : Nat} {w' : World}, e ≠ 0 → ([], 0, e) = r → Fr (fun _ => False) w w' → Value.tuple #[.string ⟨#[]⟩, .int .i64 0, .int .i64 (e : Int)] = ans3 r ∧ (r.2.2 = 0 → (r.1.length : Int) ≤ most) ∧ Fr (fun _ => False) w w' := fun he hh hf => by
    subst hh
    exact ⟨rfl, fun h => absurd h he, hf⟩
  refine ⟨fun h1 => ?_, fun h1 => ⟨fun h2 => ?_, fun h2 => ⟨fun h3 => ?_, fun h3 => ⟨fun h4 => ?_, fun h4 => ?_⟩⟩⟩⟩
  · rw [if_pos (.inl (of_decide_eq_true h1))] at hr; exact bad (by decide) hr (.refl _ _)
  · rw [if_pos (.inr (.inl (of_decide_eq_true h2)))] at hr; exact bad (by decide) hr (.refl _ _)
  · rw [if_pos (.inr (.inr (.inl (of_decide_eq_true h3))))] at hr; exact bad (by decide) hr (.refl _ _)
  · rw [if_pos (.inr (.inr (.inr (of_decide_eq_true h4))))] at hr; exact bad (by decide) hr (.refl _ _)
  have h1 := of_decide_eq_false h1
  have h2 := of_decide_eq_false h2
  have h3 := of_decide_eq_false h3
  have h4 := of_decide_eq_false h4
  obtain ⟨off, rfl⟩ : ∃ off : Nat, at_ = (off : Int) := ⟨at_.toNat, by omega⟩
  rw [if_neg (by omega), Int.toNat_natCast] at hr
  have e1 : IntKind.i64.wrap ((s.size : Int) - (off : Int)) = ((s.size - off : Nat) : Int) := by rw [wrap_i64 (by omega) (by omega)]; omega
  have e2 : IntKind.i64.wrap ((off : Int) + 1) = ((off + 1 : Nat) : Int) := by rw [wrap_i64 (by omega) (by omega)]; omega
  have e3 : IntKind.i64.wrap ((off : Int) + 2) = ((off + 2 : Nat) : Int) := by rw [wrap_i64 (by omega) (by omega)]; omega
  rw [e1, e2, e3]
  refine ⟨fun hlt => ?_, fun hge w1 d1 => ?_⟩
  · have hlt := of_decide_eq_true hlt
    rw [if_pos (by omega)] at hr; exact bad (by decide) hr (.refl _ _)
  have hge := of_decide_eq_false hge
  rw [if_neg (by omega), ← byt_getD, ← byt_getD] at hr
  refine ⟨fun w' => True, trivial, ⟨by omega, by omega⟩, ⟨by omega, by omega⟩, ?_⟩
  rw [byteAt_nat, byteAt_nat]
  refine (zhead_spec _ _ (byt_lt s off) (byt_lt s (off + 1)) w1).mono ?_
  rintro e w4 ⟨rfl, hw⟩
  replace hw := hw.symm
  subst hw
  generalize ZlM.head (byt s off) (byt s (off + 1)) = hd at hr
  refine ⟨_, rfl, trivial, fun hno => ?_, fun hyes => ?_⟩
  · have hno : hd = false := by simpa using hno
    rw [if_pos hno] at hr; exact bad (by decide) hr (.drew _ d1)
  have hyes : hd = true := by simpa using hyes
  rw [if_neg (by rw [hyes]; decide)] at hr
  rw [show ((off + 2 : Nat) : Int) = (off : Int) + 2 by omega]
  refine (infl_spec s (by omega) ((off : Int) + 2) most w1).mono ?_
  have hle := ZlM.inflate_le (s := s.data.toList) (at_ := (off : Int) + 2) (most := most)
  rw [hsl] at hle
  generalize InfM.inflate s.data.toList ((off : Int) + 2) most = q at hr hle
  rintro e w7 ⟨rfl, hlen, hf7⟩
  have hf7' : Fr (fun _ => False) w w7 := (Fr.drew _ d1).trans' hf7
  refine ⟨_, _, _, rfl, fun hne => ?_, fun heq => ?_⟩
  · have hne : q.2.2 ≠ 0 := by simpa using hne
    rw [if_pos hne] at hr
    exact bad hne hr hf7'
  have heq : q.2.2 = 0 := by simpa using heq
  rw [if_neg (by omega)] at hr
  have hle := hle heq
  have e4 : IntKind.i64.wrap ((off : Int) + 2 + (q.2.1 : Int)) = ((off + 2 + q.2.1 : Nat) : Int) := by rw [wrap_i64 (by omega) (by omega)]; omega
  have e5 : IntKind.i64.wrap ((s.size : Int) - ((off + 2 + q.2.1 : Nat) : Int)) = ((s.size - (off + 2 + q.2.1) : Nat) : Int) := by rw [wrap_i64 (by omega) (by omega)]; omega
  have e6 : IntKind.i64.wrap (((off + 2 + q.2.1 : Nat) : Int) + 4) = ((off + 2 + q.2.1 + 4 : Nat) : Int) := by rw [wrap_i64 (by omega) (by omega)]; omega
  rw [e4, e5, e6]
  refine ⟨fun hlt => ?_, fun hge => ?_⟩
  · have hlt := of_decide_eq_true hlt
    rw [if_pos (by omega)] at hr; exact bad (by decide) hr hf7'
  have hge := of_decide_eq_false hge
  rw [if_neg (by omega)] at hr
  refine ⟨⟨by omega, by omega, by omega⟩, ?_⟩
  rw [Int.toNat_natCast, Int.toNat_natCast]
  have hx : (s.extract (off + 2 + q.2.1) (off + 2 + q.2.1 + 4)).data.toList = (s.data.toList.drop (off + 2 + q.2.1)).take 4 := by
    rw [extract_list, Nat.add_sub_cancel_left]
  have hxl : ((s.data.toList.drop (off + 2 + q.2.1)).take 4).length = 4 := by rw [List.length_take, List.length_drop]; omega
  refine (frombig_spec (s.extract (off + 2 + q.2.1) (off + 2 + q.2.1 + 4)) (by simp; omega) w7).mono ?_
  rw [hx]
  rintro e w12 ⟨rfl, hw⟩
  replace hw := hw.symm
  subst hw
  have hq1 : ((⟨q.1.toArray⟩ : ByteArray)).data.toList = q.1 := by simp
  have hn8 := num8_lt 4 _ hxl
  have hb8 := bigB_num8 4 _ hxl
  have had := adler_lt q.1
  have hmost := hlen heq
  refine ⟨_, rfl, (adler_spec ⟨q.1.toArray⟩ (by simp [ByteArray.size]; omega) w7).mono ?_⟩
  rw [hq1]
  rintro e w15 ⟨rfl, hf15⟩
  rw [wrap_u32 (by omega) (by omega)]
  refine ⟨_, rfl, fun hne => ?_, fun heq2 => ?_⟩
  · have hne : num8 ((s.data.toList.drop (off + 2 + q.2.1)).take 4) ≠ adler q.1 := fun hh => by rw [hh] at hne; simp at hne
    rw [if_pos (fun hh => hne (by rw [hh]; exact num8_bigB 4 _ (by omega)))] at hr
    exact bad (by decide) hr (hf7'.trans' hf15)
  · have heq2 : num8 ((s.data.toList.drop (off + 2 + q.2.1)).take 4) = adler q.1 := Int.ofNat.inj (by simpa using heq2)
    rw [if_neg (fun hh => hh (by rw [← heq2]; exact hb8.symm))] at hr
    subst hr
    have e7 : IntKind.i64.wrap ((q.2.1 : Int) + 6) = ((q.2.1 + 6 : Nat) : Int) := by rw [wrap_i64 (by omega) (by omega)]; omega
    rw [e7]
    exact ⟨rfl, fun _ => hmost, hf7'.trans' hf15⟩
/-- The reference's 'Read'. -/
theorem rzread_spec (s : ByteArray) (hs : s.size ≤ 100000000) (at_ most : Int) (w : World) :
    Calls Try.prog F_cartularyref06_Read #[.string s, .int .i64 at_, .int .i64 most] w fun e w' => e = .returned (ans3 (ZlM.read s.data.toList at_ most)) ∧ Fr (fun _ => False) w w' := by
  refine vc_cartularyref06_Read_ok (R := fun v w' => v = ans3 (ZlM.read s.data.toList at_ most) ∧ Fr (fun _ => False) w w') ?_ (fun v w' h => ⟨by rw [h.1], h.2⟩)
  have hsl : s.data.toList.length = s.size := by simp
  obtain ⟨r, hr⟩ : ∃ r, ZlM.read s.data.toList at_ most = r := ⟨_, rfl⟩
  rw [hr]
  unfold ZlM.read at hr
  rw [hsl] at hr
  have bad : ∀ {e : Nat} {w' : World}, ([], 0, e) = r → Fr (fun _ => False) w w' → Value.tuple #[.string ⟨#[]⟩, .int .i64 0, .int .i64 (e : Int)] = ans3 r ∧ Fr (fun _ => False) w w' := fun hh hf => by
    subst hh
    exact ⟨rfl, hf⟩
  refine ⟨fun h1 => ?_, fun h1 => ⟨fun h2 => ?_, fun h2 => ⟨fun h3 => ?_, fun h3 => ⟨fun h4 => ?_, fun h4 => ?_⟩⟩⟩⟩
  · rw [if_pos (.inl (of_decide_eq_true h1))] at hr; exact bad hr (.refl _ _)
  · rw [if_pos (.inr (.inl (of_decide_eq_true h2)))] at hr; exact bad hr (.refl _ _)
  · rw [if_pos (.inr (.inr (.inl (of_decide_eq_true h3))))] at hr; exact bad hr (.refl _ _)
  · rw [if_pos (.inr (.inr (.inr (of_decide_eq_true h4))))] at hr; exact bad hr (.refl _ _)
  have h1 := of_decide_eq_false h1
  have h2 := of_decide_eq_false h2
  have h3 := of_decide_eq_false h3
  have h4 := of_decide_eq_false h4
  obtain ⟨off, rfl⟩ : ∃ off : Nat, at_ = (off : Int) := ⟨at_.toNat, by omega⟩
  rw [if_neg (by omega), Int.toNat_natCast] at hr
  have e1 : IntKind.i64.wrap ((s.size : Int) - (off : Int)) = ((s.size - off : Nat) : Int) := by rw [wrap_i64 (by omega) (by omega)]; omega
  have e2 : IntKind.i64.wrap ((off : Int) + 1) = ((off + 1 : Nat) : Int) := by rw [wrap_i64 (by omega) (by omega)]; omega
  have e3 : IntKind.i64.wrap ((off : Int) + 2) = ((off + 2 : Nat) : Int) := by rw [wrap_i64 (by omega) (by omega)]; omega
  rw [e1, e2, e3]
  refine ⟨fun hlt => ?_, fun hge w1 d1 => ?_⟩
  · have hlt := of_decide_eq_true hlt
    rw [if_pos (by omega)] at hr; exact bad hr (.refl _ _)
  have hge := of_decide_eq_false hge
  rw [if_neg (by omega), ← byt_getD, ← byt_getD] at hr
  refine ⟨fun w' => True, trivial, ⟨by omega, by omega⟩, ⟨by omega, by omega⟩, ?_⟩
  have b0 := byt_lt s off
  have b1 := byt_lt s (off + 1)
  rw [byteAt_nat, byteAt_nat, wrap_i64 (x := ((byt s off : Nat) : Int)) (by omega) (by omega), wrap_i64 (x := ((byt s (off + 1) : Nat) : Int)) (by omega) (by omega)]
  refine (rhead_spec _ _ b0 b1 w1).mono ?_
  rintro e w4 ⟨rfl, hw⟩
  replace hw := hw.symm
  subst hw
  generalize ZlM.head (byt s off) (byt s (off + 1)) = hd at hr
  refine ⟨_, rfl, trivial, fun hno => ?_, fun hyes => ?_⟩
  · have hno : hd = false := by simpa using hno
    rw [if_pos hno] at hr; exact bad hr (.drew _ d1)
  have hyes : hd = true := by simpa using hyes
  rw [if_neg (by rw [hyes]; decide)] at hr
  rw [show ((off + 2 : Nat) : Int) = (off : Int) + 2 by omega]
  refine (rinfl_spec s (by omega) ((off : Int) + 2) most w1).mono ?_
  have hle := ZlM.inflate_le (s := s.data.toList) (at_ := (off : Int) + 2) (most := most)
  have hlen := fun h => (ZlM.inflate_len (s := s.data.toList) (at_ := (off : Int) + 2) (most := most) h)
  rw [hsl] at hle
  generalize InfM.inflate s.data.toList ((off : Int) + 2) most = q at hr hle hlen
  rintro e w7 ⟨rfl, hf7⟩
  have hf7' : Fr (fun _ => False) w w7 := (Fr.drew _ d1).trans' hf7
  refine ⟨_, _, _, rfl, fun hne => ?_, fun heq => ?_⟩
  · have hne : q.2.2 ≠ 0 := by simpa using hne
    rw [if_pos hne] at hr
    exact bad hr hf7'
  have heq : q.2.2 = 0 := by simpa using heq
  rw [if_neg (by omega)] at hr
  have hle := hle heq
  have hmost := hlen heq
  have e4 : IntKind.i64.wrap ((off : Int) + 2 + (q.2.1 : Int)) = ((off + 2 + q.2.1 : Nat) : Int) := by rw [wrap_i64 (by omega) (by omega)]; omega
  rw [e4, Int.toNat_natCast]
  have hx : (s.extract (off + 2 + q.2.1) s.size).data.toList = s.data.toList.drop (off + 2 + q.2.1) := by
    rw [extract_list, List.take_of_length_le (by simp)]
  have hxs : (s.extract (off + 2 + q.2.1) s.size).size = s.size - (off + 2 + q.2.1) := by simp
  rw [hxs]
  refine ⟨⟨by omega, by omega⟩, fun hlt => ?_, fun hge w11 d11 => ?_⟩
  · have hlt := of_decide_eq_true hlt
    rw [if_pos (by omega)] at hr; exact bad hr hf7'
  have hge := of_decide_eq_false hge
  rw [if_neg (by omega)] at hr
  have hq1 : ((⟨q.1.toArray⟩ : ByteArray)).data.toList = q.1 := by simp
  have had := adler_lt q.1
  refine ⟨fun w' => True, trivial, ⟨by decide, by omega⟩, (radler_spec ⟨q.1.toArray⟩ (by simp [ByteArray.size]; omega) w11).mono ?_⟩
  rw [hq1]
  rintro e w14 ⟨rfl, hw⟩
  replace hw := hw.symm
  subst hw
  refine ⟨_, rfl, trivial, ?_⟩
  rw [wrap_u64 (by omega) (by omega)]
  refine (rbig_spec (adler q.1) 4 (by omega) (by decide) w11).mono ?_
  rintro e w17 ⟨rfl, hf17⟩
  have h4 : ((s.extract (off + 2 + q.2.1) s.size).extract 0 (Int.toNat 4)).toList = (s.data.toList.drop (off + 2 + q.2.1)).take 4 := by
    rw [ByteArray.toList_eq, extract_list, hx]; rfl
  have hfin := (hf7'.trans' (.drew _ d11)).trans' hf17
  refine ⟨_, rfl, trivial, ?_⟩
  rw [h4, ByteArray.toList_eq]
  refine ⟨fun hne => ?_, fun heq2 => ?_⟩
  · rw [if_pos (fun hh => by rw [hh] at hne; simp at hne)] at hr
    exact bad hr hfin
  · have heq2 : (s.data.toList.drop (off + 2 + q.2.1)).take 4 = bigB 4 (adler q.1) := by simpa using heq2
    rw [if_neg (fun hh => hh heq2)] at hr
    subst hr
    have e7 : IntKind.i64.wrap ((q.2.1 : Int) + 6) = ((q.2.1 + 6 : Nat) : Int) := by rw [wrap_i64 (by omega) (by omega)]; omega
    rw [e7]
    exact ⟨rfl, hfin⟩
end Go.Proofs.Ytofejgaanpaieaa
