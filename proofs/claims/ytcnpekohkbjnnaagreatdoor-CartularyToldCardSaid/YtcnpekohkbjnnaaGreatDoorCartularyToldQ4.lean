/- Texts of this seat in one: made by a program of ours. -/
import Derived.Test.YtcnpekohkbjnnaaGreatDoorCartularyToldQ0
import Derived.Test.YtcnpekohkbjnnaaGreatDoorCartularyToldQ1
import Derived.Test.YtcnpekohkbjnnaaGreatDoorCartularyToldQ2
import Derived.Test.YtcnpekohkbjnnaaGreatDoorCartularyToldQ3
import Derived.Laws.Strings
import Derived.Test.YtcnpekohkbjnnaaGreatDoorProg
import Derived.Lib.ReplaceLaws
import Derived.Handed
import Derived.HandedShaped
import Derived.Shelf.Vars
import Derived.Test.YtcnpekohkbjnnaaGreatDoorRows
import Derived.Shelf.Lays
import Derived.Shelf.Strings.BuilderX
import Derived.Shelf.Strings.Replace
import Derived.Laws.IdiomCopy
import Derived.Laws.IdiomStrings
/- The frame of RFC 1950: its head and its reading, of the program and of the reference. Conditions: bytes are bytes; the text is no longer than a slice may be. -/
set_option linter.unusedVariables false
namespace ZlM
open BitsM SumM Go.Proofs.YtcnpekohkbjnnaaGreatDoor
/-- Is it a head? -/
def head (a b : Nat) : Bool := a % 16 == 8 && (decide (a / 16 ≤ 7) && ((256 * a + b) % 31 == 0 && b / 32 % 2 == 0))
/-- The frame at a place: what it says, its bytes, the error's number. -/
noncomputable def read (s : List UInt8) (at_ most : Int) : List UInt8 × Nat × Nat :=
  if at_ < 0 ∨ (s.length : Int) < at_ ∨ most < 0 ∨ 65536 < most then ([], 0, 1)
  else if s.length < at_.toNat + 2 then ([], 0, 6)
  else if head (s.getD at_.toNat 0).toNat (s.getD (at_.toNat + 1) 0).toNat = false then ([], 0, 3)
  else if (InfM.inflate s (at_ + 2) most).2.2 ≠ 0 then ([], 0, (InfM.inflate s (at_ + 2) most).2.2)
  else if s.length < at_.toNat + 2 + (InfM.inflate s (at_ + 2) most).2.1 + 4 then ([], 0, 6)
  else if (s.drop (at_.toNat + 2 + (InfM.inflate s (at_ + 2) most).2.1)).take 4 ≠ bigB 4 (adler (InfM.inflate s (at_ + 2) most).1) then ([], 0, 5)
  else ((InfM.inflate s (at_ + 2) most).1, (InfM.inflate s (at_ + 2) most).2.1 + 6, 0)
/-- No more is taken than there is. -/
theorem inf_le {most : Nat} {B : List Bool} {out : List UInt8} {p : Nat} (h : InfM.inf most B = .ok (out, p)) : p ≤ B.length := by
  unfold InfM.inf at h
  have hc := InfM.blocks_cut (most := most) (Nat.le_refl B.length) (B.length + 1) (B.length + 1) 0 [] (Nat.zero_le _) (by omega) out p h
  rw [List.take_length, h] at hc
  split at hc
  · assumption
  · cases hc
theorem inflate_le {s : List UInt8} {at_ most : Int} (h : (InfM.inflate s at_ most).2.2 = 0) : at_.toNat + (InfM.inflate s at_ most).2.1 ≤ s.length ∧ 0 ≤ at_ := by
  unfold InfM.inflate at h ⊢
  split at h
  · cases h
  · rename_i hc
    rw [if_neg hc]
    cases hi : InfM.inf most.toNat (sbits (s.drop at_.toNat)) with
    | error e =>
      dsimp only
      omega
    | ok x =>
      obtain ⟨out, p⟩ := x
      have := inf_le hi
      rw [sbits_length, List.length_drop] at this
      dsimp only
      omega
theorem inflate_len {s : List UInt8} {at_ most : Int} (h : (InfM.inflate s at_ most).2.2 = 0) : ((InfM.inflate s at_ most).1.length : Int) ≤ 65536 := by
  unfold InfM.inflate at h ⊢
  split at h
  · cases h
  · rename_i hc
    rw [if_neg hc]
    cases hi : InfM.inf most.toNat (sbits (s.drop at_.toNat)) with
    | error e => dsimp only; decide
    | ok x =>
      obtain ⟨out, p⟩ := x
      dsimp only
      unfold InfM.inf at hi
      rcases InfM.blocks_good (Nat.le_refl most.toNat) (sbits (s.drop at_.toNat)) ((sbits (s.drop at_.toNat)).length + 1) 0 [] (Nat.zero_le _) with hg | ⟨_, hg⟩
      · rw [hi] at hg; cases hg
      · have := hg _ _ hi
        omega
theorem read_bad {s : List UInt8} {at_ most : Int} (h : (read s at_ most).2.2 ≠ 0) : (read s at_ most).1 = [] ∧ (read s at_ most).2.1 = 0 := by
  unfold read at h ⊢
  generalize InfM.inflate s (at_ + 2) most = q at h ⊢
  split
  · exact ⟨rfl, rfl⟩
  rename_i h1; rw [if_neg h1] at h
  split
  · exact ⟨rfl, rfl⟩
  rename_i h2; rw [if_neg h2] at h
  split
  · exact ⟨rfl, rfl⟩
  rename_i h3; rw [if_neg h3] at h
  split
  · exact ⟨rfl, rfl⟩
  rename_i h4; rw [if_neg h4] at h
  split
  · exact ⟨rfl, rfl⟩
  rename_i h5; rw [if_neg h5] at h
  split
  · exact ⟨rfl, rfl⟩
  rename_i h6; rw [if_neg h6] at h
  exact absurd rfl h
theorem read_ok {s : List UInt8} {most : Int} (h : (read s 0 most).2.2 = 0) : 2 ≤ s.length ∧ head (s.getD 0 0).toNat (s.getD 1 0).toNat = true ∧ (InfM.inflate s 2 most).2.2 = 0 ∧
    (read s 0 most).1 = (InfM.inflate s 2 most).1 ∧ (read s 0 most).2.1 = (InfM.inflate s 2 most).2.1 + 6 ∧ (InfM.inflate s 2 most).2.1 + 6 ≤ s.length := by
  unfold read at h ⊢
  rw [show (0 : Int) + 2 = 2 from rfl, show (0 : Int).toNat = 0 from rfl, Nat.zero_add] at h ⊢
  generalize InfM.inflate s 2 most = q at h ⊢
  split at h
  · cases h
  rename_i h1
  split at h
  · cases h
  rename_i h2
  split at h
  · cases h
  rename_i h3
  split at h
  · rename_i h4; exact absurd h h4
  rename_i h4
  split at h
  · cases h
  rename_i h5
  split at h
  · cases h
  rename_i h6
  rw [if_neg h1, if_neg h2, if_neg h3, if_neg h4, if_neg h5, if_neg h6]
  exact ⟨by omega, by simpa using h3, by omega, rfl, rfl, by omega⟩
/-- How many heads there are with this first byte and a second one below k. -/
def cnt (a : Nat) : Nat → Nat
  | 0 => 0
  | k + 1 => cnt a k + (if head a k = true then 1 else 0)
theorem cnt_all : ∀ a, a < 256 → ((a % 16 = 8 ∧ a / 16 ≤ 7) ↔ 0 < cnt a 256) ∧ cnt a 256 ≤ 5 := by decide +kernel
end ZlM
namespace Go.Proofs.YtcnpekohkbjnnaaGreatDoor
open Go Vc BitsM SumM Go.Proofs

theorem and32 : ∀ b, b < 256 → ((b &&& 32 == 0) = (b / 32 % 2 == 0)) := by decide +kernel
theorem zand15 (a : Nat) (ha : a < 256) : IntKind.u8.wrap (((BitVec.ofInt 8 (a : Int) &&& BitVec.ofInt 8 15).toNat : Nat) : Int) = ((a % 16 : Nat) : Int) := by
  have := and_nat 8 a 15 (by omega) (by decide)
  rw [show ((15 : Nat) : Int) = 15 from rfl, show a &&& 15 = a % 16 from and_mask a 4] at this
  rw [this, wrap_u8 (by omega) (by omega)]
theorem zand32 (b : Nat) (hb : b < 256) : (IntKind.u8.wrap (((BitVec.ofInt 8 (b : Int) &&& BitVec.ofInt 8 32).toNat : Nat) : Int) == 0) = (b / 32 % 2 == 0) := by
  have := and_nat 8 b 32 (by omega) (by decide)
  rw [show ((32 : Nat) : Int) = 32 from rfl] at this
  have h2 : b &&& 32 < 256 := Nat.lt_of_le_of_lt Nat.and_le_left hb
  rw [this, wrap_u8 (by omega) (by omega), ← and32 b hb, Bool.eq_iff_iff]
  simp only [beq_iff_eq]; omega
theorem zshr4 (a : Nat) : Int.fdiv (a : Int) (2 ^ min (Int.toNat 4) 8) = ((a / 16 : Nat) : Int) := by
  rw [show (2 : Int) ^ min (Int.toNat 4) 8 = ((16 : Nat) : Int) from rfl, Int.fdiv_eq_ediv_of_nonneg _ (Int.natCast_nonneg _), ← Int.natCast_ediv]
/-- 'Head'. -/
theorem zhead_spec (a b : Nat) (ha : a < 256) (hb : b < 256) (w : World) :
    Calls Tryz.prog F_zlib_Head #[.int .u8 (a : Int), .int .u8 (b : Int)] w fun e w' => e = .returned (.bool (ZlM.head a b)) ∧ w' = w := by
  refine vc_zlib_Head_ok (R := fun v w' => v = .bool (ZlM.head a b) ∧ w' = w) ?_ (fun v w' h => ⟨by rw [h.1], h.2⟩)
  have e1 : Int.tmod (IntKind.i64.wrap (((BitVec.ofInt 64 (IntKind.i64.wrap (IntKind.i64.wrap (a : Int) * 2 ^ min (Int.toNat 8) 64)) ||| BitVec.ofInt 64 (IntKind.i64.wrap (b : Int))).toNat : Nat) : Int)) 31 = (((256 * a + b) % 31 : Nat) : Int) := by
    have hor : 2 ^ 8 * a ||| b = 2 ^ 8 * a + b := (Nat.two_pow_add_eq_or_of_lt hb _).symm
    rw [wrap_i64 (x := (a : Int)) (by omega) (by omega), show (a : Int) * 2 ^ min (Int.toNat 8) 64 = ((2 ^ 8 * a : Nat) : Int) by
      rw [show (2 : Int) ^ min (Int.toNat 8) 64 = ((2 ^ 8 : Nat) : Int) from rfl, ← Int.natCast_mul, Nat.mul_comm],
      wrap_i64 (x := ((2 ^ 8 * a : Nat) : Int)) (by omega) (by omega), wrap_i64 (x := (b : Int)) (by omega) (by omega), or_nat 64 _ _ (by omega) (by omega), hor, wrap_i64 (by omega) (by omega), Int.tmod_eq_emod_of_nonneg (by omega)]
    omega
  rw [vc_zlib_Head, zand15 a ha, zshr4, e1, zand32 b hb]
  unfold ZlM.head
  refine ⟨fun h1 => ⟨by decide, fun h2 => ⟨by decide, by decide, fun h3 => ?_, fun h3 => ?_⟩, fun h2 => ?_⟩, fun h1 => ?_⟩
  · have h1 : a % 16 = 8 := by have := eq_of_beq h1; omega
    have h2 := of_decide_eq_true h2
    have h3 : (256 * a + b) % 31 = 0 := by have := eq_of_beq h3; omega
    rw [h1, h3, decide_eq_true (show a / 16 ≤ 7 by omega)]
    exact ⟨rfl, rfl⟩
  · have h3 : ((256 * a + b) % 31 == 0) = false := by rw [Bool.eq_false_iff] at h3 ⊢; intro hh; have := eq_of_beq hh; exact h3 (by rw [this]; rfl)
    rw [h3]
    exact ⟨by simp, rfl⟩
  · have h2 := of_decide_eq_false h2
    rw [decide_eq_false (show ¬ a / 16 ≤ 7 by omega)]
    exact ⟨by simp, rfl⟩
  · have h1 : (a % 16 == 8) = false := by rw [Bool.eq_false_iff] at h1 ⊢; intro hh; have := eq_of_beq hh; exact h1 (by rw [this]; rfl)
    rw [h1]
    exact ⟨by simp, rfl⟩
/-- The reference's 'Head'. -/
theorem byt_getD (s : ByteArray) (i : Nat) : byt s i = (s.data.toList.getD i 0).toNat := by
  unfold byt; rw [List.getD_eq_getElem?_getD]
/-- 'Read'. -/
theorem zread_spec (s : ByteArray) (hs : s.size ≤ 100000000) (at_ most : Int) (w : World) :
    Calls Tryz.prog F_zlib_Read #[.string s, .int .i64 at_, .int .i64 most] w fun e w' => e = .returned (ans3 (ZlM.read s.data.toList at_ most)) ∧
      ((ZlM.read s.data.toList at_ most).2.2 = 0 → ((ZlM.read s.data.toList at_ most).1.length : Int) ≤ most) ∧ Fr (fun _ => False) w w' := by
  refine vc_zlib_Read_ok (R := fun v w' => v = ans3 (ZlM.read s.data.toList at_ most) ∧ ((ZlM.read s.data.toList at_ most).2.2 = 0 → ((ZlM.read s.data.toList at_ most).1.length : Int) ≤ most) ∧ Fr (fun _ => False) w w') ?_ (fun v w' h => ⟨by rw [h.1], h.2⟩)
  have hsl : s.data.toList.length = s.size := by simp
  obtain ⟨r, hr⟩ : ∃ r, ZlM.read s.data.toList at_ most = r := ⟨_, rfl⟩
  rw [hr]
  unfold ZlM.read at hr
  rw [hsl] at hr
  have bad : ∀ {e : Nat} {w' : World}, e ≠ 0 → ([], 0, e) = r → Fr (fun _ => False) w w' → Value.tuple #[.string ⟨#[]⟩, .int .i64 0, .int .i64 (e : Int)] = ans3 r ∧ (r.2.2 = 0 → (r.1.length : Int) ≤ most) ∧ Fr (fun _ => False) w w' := fun he hh hf => by
    subst hh
    exact ⟨rfl, fun h => absurd h he, hf⟩
  refine ⟨fun h1 => ?_, fun h1 => ⟨fun h2 => ?_, fun h2 => ⟨fun h3 => ?_, fun h3 => ⟨fun h4 => ?_, fun h4 => ?_⟩⟩⟩⟩
  · rw [if_pos (.inl (of_decide_eq_true h1))] at hr; exact bad (by decide) hr (.refl _ _)
  · rw [if_pos (.inr (.inl (of_decide_eq_true h2)))] at hr; exact bad (by decide) hr (.refl _ _)
  · rw [if_pos (.inr (.inr (.inl (of_decide_eq_true h3))))] at hr; exact bad (by decide) hr (.refl _ _)
  · rw [if_pos (.inr (.inr (.inr (of_decide_eq_true h4))))] at hr; exact bad (by decide) hr (.refl _ _)
  have h1 := of_decide_eq_false h1
  have h2 := of_decide_eq_false h2
  have h3 := of_decide_eq_false h3
  have h4 := of_decide_eq_false h4
  obtain ⟨off, rfl⟩ : ∃ off : Nat, at_ = (off : Int) := ⟨at_.toNat, by omega⟩
  rw [if_neg (by omega), Int.toNat_natCast] at hr
  have e1 : IntKind.i64.wrap ((s.size : Int) - (off : Int)) = ((s.size - off : Nat) : Int) := by rw [wrap_i64 (by omega) (by omega)]; omega
  have e2 : IntKind.i64.wrap ((off : Int) + 1) = ((off + 1 : Nat) : Int) := by rw [wrap_i64 (by omega) (by omega)]; omega
  have e3 : IntKind.i64.wrap ((off : Int) + 2) = ((off + 2 : Nat) : Int) := by rw [wrap_i64 (by omega) (by omega)]; omega
  rw [e1, e2, e3]
  refine ⟨fun hlt => ?_, fun hge w1 d1 => ?_⟩
  · have hlt := of_decide_eq_true hlt
    rw [if_pos (by omega)] at hr; exact bad (by decide) hr (.refl _ _)
  have hge := of_decide_eq_false hge
  rw [if_neg (by omega), ← byt_getD, ← byt_getD] at hr
  refine ⟨fun w' => True, trivial, ⟨by omega, by omega⟩, ⟨by omega, by omega⟩, ?_⟩
  rw [byteAt_nat, byteAt_nat]
  refine (zhead_spec _ _ (byt_lt s off) (byt_lt s (off + 1)) w1).mono ?_
  rintro e w4 ⟨rfl, hw⟩
  replace hw := hw.symm
  subst hw
  generalize ZlM.head (byt s off) (byt s (off + 1)) = hd at hr
  refine ⟨_, rfl, trivial, fun hno => ?_, fun hyes => ?_⟩
  · have hno : hd = false := by simpa using hno
    rw [if_pos hno] at hr; exact bad (by decide) hr (.drew _ d1)
  have hyes : hd = true := by simpa using hyes
  rw [if_neg (by rw [hyes]; decide)] at hr
  rw [show ((off + 2 : Nat) : Int) = (off : Int) + 2 by omega]
  refine (infl_spec s (by omega) ((off : Int) + 2) most w1).mono ?_
  have hle := ZlM.inflate_le (s := s.data.toList) (at_ := (off : Int) + 2) (most := most)
  rw [hsl] at hle
  generalize InfM.inflate s.data.toList ((off : Int) + 2) most = q at hr hle
  rintro e w7 ⟨rfl, hlen, hf7⟩
  have hf7' : Fr (fun _ => False) w w7 := (Fr.drew _ d1).trans' hf7
  refine ⟨_, _, _, rfl, fun hne => ?_, fun heq => ?_⟩
  · have hne : q.2.2 ≠ 0 := by simpa using hne
    rw [if_pos hne] at hr
    exact bad hne hr hf7'
  have heq : q.2.2 = 0 := by simpa using heq
  rw [if_neg (by omega)] at hr
  have hle := hle heq
  have e4 : IntKind.i64.wrap ((off : Int) + 2 + (q.2.1 : Int)) = ((off + 2 + q.2.1 : Nat) : Int) := by rw [wrap_i64 (by omega) (by omega)]; omega
  have e5 : IntKind.i64.wrap ((s.size : Int) - ((off + 2 + q.2.1 : Nat) : Int)) = ((s.size - (off + 2 + q.2.1) : Nat) : Int) := by rw [wrap_i64 (by omega) (by omega)]; omega
  have e6 : IntKind.i64.wrap (((off + 2 + q.2.1 : Nat) : Int) + 4) = ((off + 2 + q.2.1 + 4 : Nat) : Int) := by rw [wrap_i64 (by omega) (by omega)]; omega
  rw [e4, e5, e6]
  refine ⟨fun hlt => ?_, fun hge => ?_⟩
  · have hlt := of_decide_eq_true hlt
    rw [if_pos (by omega)] at hr; exact bad (by decide) hr hf7'
  have hge := of_decide_eq_false hge
  rw [if_neg (by omega)] at hr
  refine ⟨⟨by omega, by omega, by omega⟩, ?_⟩
  rw [Int.toNat_natCast, Int.toNat_natCast]
  have hx : (s.extract (off + 2 + q.2.1) (off + 2 + q.2.1 + 4)).data.toList = (s.data.toList.drop (off + 2 + q.2.1)).take 4 := by
    rw [extract_list, Nat.add_sub_cancel_left]
  have hxl : ((s.data.toList.drop (off + 2 + q.2.1)).take 4).length = 4 := by rw [List.length_take, List.length_drop]; omega
  refine (frombig_spec (s.extract (off + 2 + q.2.1) (off + 2 + q.2.1 + 4)) (by simp; omega) w7).mono ?_
  rw [hx]
  rintro e w12 ⟨rfl, hw⟩
  replace hw := hw.symm
  subst hw
  have hq1 : ((⟨q.1.toArray⟩ : ByteArray)).data.toList = q.1 := by simp
  have hn8 := num8_lt 4 _ hxl
  have hb8 := bigB_num8 4 _ hxl
  have had := adler_lt q.1
  have hmost := hlen heq
  refine ⟨_, rfl, (adler_spec ⟨q.1.toArray⟩ (by simp [ByteArray.size]; omega) w7).mono ?_⟩
  rw [hq1]
  rintro e w15 ⟨rfl, hf15⟩
  rw [wrap_u32 (by omega) (by omega)]
  refine ⟨_, rfl, fun hne => ?_, fun heq2 => ?_⟩
  · have hne : num8 ((s.data.toList.drop (off + 2 + q.2.1)).take 4) ≠ adler q.1 := fun hh => by rw [hh] at hne; simp at hne
    rw [if_pos (fun hh => hne (by rw [hh]; exact num8_bigB 4 _ (by omega)))] at hr
    exact bad (by decide) hr (hf7'.trans' hf15)
  · have heq2 : num8 ((s.data.toList.drop (off + 2 + q.2.1)).take 4) = adler q.1 := Int.ofNat.inj (by simpa using heq2)
    rw [if_neg (fun hh => hh (by rw [← heq2]; exact hb8.symm))] at hr
    subst hr
    have e7 : IntKind.i64.wrap ((q.2.1 : Int) + 6) = ((q.2.1 + 6 : Nat) : Int) := by rw [wrap_i64 (by omega) (by omega)]; omega
    rw [e7]
    exact ⟨rfl, fun _ => hmost, hf7'.trans' hf15⟩
end Go.Proofs.YtcnpekohkbjnnaaGreatDoor

/- Formulas of 5 Go functions of this seat (written by a program of the author's, vcgen.py), and that each is enough for the call. No condition. -/
set_option linter.unusedVariables false
namespace Go.Proofs.YtcnpekohkbjnnaaGreatDoor
open Go Vc Go.Proofs
set_option maxRecDepth 100000
/-- (*bitin.Writer).Bits -/
def vc_bitin_Writer_Bits (x0 : Nat) (x1 : Int) (x2 : Int) (w : World) (R : Value → World → Prop) : Prop :=
  (((decide (x2 < 0) = true →
     R (Value.tuple (Array.mk [])) w)) ∧
   (decide (x2 < 0) = false →
     (((decide (x2 > 32) = true →
        R (Value.tuple (Array.mk [])) w)) ∧
      (decide (x2 > 32) = false →
        ∀ w1 : World,
        (Drew w w1 →
          ∃ n2 : Int, (World.cell? w1 (Addr.mk x0 1 none) = some (Value.int IntKind.u64 n2) ∧
           (0 ≤ x2 ∧
            ∃ n3 : Int, (World.cell? w1 (Addr.mk x0 2 none) = some (Value.int IntKind.i64 n3) ∧
             (0 ≤ n3 ∧
              (Wr w1 (Addr.mk x0 1 none) ∧
               ∀ w4 : World,
               (w4 = World.setCell w1 (Addr.mk x0 1 none) (Value.int IntKind.u64 (IntKind.wrap IntKind.u64 (↑(BitVec.toNat (BitVec.ofInt 64 n2 ||| BitVec.ofInt 64 (IntKind.wrap IntKind.u64 (IntKind.wrap IntKind.u64 (↑(BitVec.toNat (BitVec.ofInt 64 (IntKind.wrap IntKind.u64 x1) &&& BitVec.ofInt 64 (IntKind.wrap IntKind.u64 (IntKind.wrap IntKind.u64 (1 * 2 ^ min (Int.toNat x2) 64) - 1)))) : Int) * 2 ^ min (Int.toNat n3) 64)))) : Int))) →
                 ∃ n5 : Int, (World.cell? w4 (Addr.mk x0 2 none) = some (Value.int IntKind.i64 n5) ∧
                  (Wr w4 (Addr.mk x0 2 none) ∧
                   ∀ w6 : World,
                   (w6 = World.setCell w4 (Addr.mk x0 2 none) (Value.int IntKind.i64 (IntKind.wrap IntKind.i64 (n5 + x2))) →
                     ∃ I7 : World → Prop, ∃ I8 : World → Nat, (I7 w6 ∧
                      ∀ w9 : World,
                      (I7 w9 →
                        ∃ n10 : Int, (World.cell? w9 (Addr.mk x0 2 none) = some (Value.int IntKind.i64 n10) ∧
                         (((decide (n10 ≥ 8) = true →
                            ∀ w11 : World,
                            (Drew w9 w11 →
                              ∃ I12 : World → Prop, (I12 w11 ∧
                               ∃ l13 : Sl, ((∀ w14 : World,
                                (I12 w14 →
                                  World.cell? w14 (Addr.mk x0 0 none) = some (Value.slice l13.1 l13.2 l13.3))) ∧
                                ∃ n15 : Int, ((∀ w16 : World,
                                 (I12 w16 →
                                   World.cell? w16 (Addr.mk x0 1 none) = some (Value.int IntKind.u64 n15))) ∧
                                 ∀ w17 : World,
                                 (w17 = World.alloc w11 (Obj.cells (Array.mk [Value.int IntKind.u8 (IntKind.wrap IntKind.u8 n15)]) 5) →
                                   (I12 w17 ∧
                                    ∃ w18 : World, ∃ l19 : Sl, (Sem.run Tryz.prog (Builtin.append_ (Array.mk [43, 43]) 43 (Array.mk [Value.slice l13.1 l13.2 l13.3, Value.slice (some (Addr.mk (Array.size (World.heap w11)) 0 none)) 1 1])) w17 = Result.ok (Value.slice l19.1 l19.2 l19.3) w18 ∧
                                     (I12 w18 ∧
                                      (Wr w18 (Addr.mk x0 0 none) ∧
                                       ∀ w20 : World,
                                       (w20 = World.setCell w18 (Addr.mk x0 0 none) (Value.slice l19.1 l19.2 l19.3) →
                                         ∃ n21 : Int, (World.cell? w20 (Addr.mk x0 1 none) = some (Value.int IntKind.u64 n21) ∧
                                          ((0 : Int) ≤ (8 : Int) ∧
                                           (Wr w20 (Addr.mk x0 1 none) ∧
                                            ∀ w22 : World,
                                            (w22 = World.setCell w20 (Addr.mk x0 1 none) (Value.int IntKind.u64 (Int.fdiv n21 (2 ^ min (Int.toNat 8) 64))) →
                                              ∃ n23 : Int, (World.cell? w22 (Addr.mk x0 2 none) = some (Value.int IntKind.i64 n23) ∧
                                               (Wr w22 (Addr.mk x0 2 none) ∧
                                                ∀ w24 : World,
                                                (w24 = World.setCell w22 (Addr.mk x0 2 none) (Value.int IntKind.i64 (IntKind.wrap IntKind.i64 (n23 - 8))) →
                                                  (I7 w24 ∧
                                                   I8 w24 < I8 w9)))))))))))))))))))) ∧
                          (decide (n10 ≥ 8) = false →
                            R (Value.tuple (Array.mk [])) w9)))))))))))))))))))
theorem vc_bitin_Writer_Bits_ok {x0 : Nat} {x1 : Int} {x2 : Int} {w : World} {R : Value → World → Prop} {R' : Ending → World → Prop} (h : vc_bitin_Writer_Bits x0 x1 x2 w R) (hR : ∀ v w', R v w' → R' (.returned v) w') :
    Calls Tryz.prog 63 #[.pointer (some ⟨x0, 0, none⟩), .int .u32 x1, .int .i64 x2] w R' :=
  calls_of_body (vs := [(.pointer (some ⟨x0, 0, none⟩), true), (.int .u32 x1, false), (.int .i64 x2, false)]) (ty := ty) (ann := ⟨[], [(3, [])], [(1, .tail 18), (4, .held [(0, true), (1, true), (2, true), (3, true), (4, true), (5, true), (6, true), (7, true), (8, true), (9, true), (10, false), (11, false), (12, true), (13, true), (14, false)])], []⟩) (c := Tryz.f63.body.getD .skip) (by kernel_rfl) Tryz.func63 (by kernel_rfl) (by kernel_rfl) (Eq.mp (by kernel_rfl) h) hR
/-- (*bitin.Writer).Code -/
def vc_bitin_Writer_Code (x0 : Nat) (x1 : Int) (x2 : Int) (w : World) (R : Value → World → Prop) : Prop :=
  (((decide (x2 < 1) = true →
     R (Value.tuple (Array.mk [])) w)) ∧
   (decide (x2 < 1) = false →
     (((decide (x2 > 32) = true →
        R (Value.tuple (Array.mk [])) w)) ∧
      (decide (x2 > 32) = false →
        ∃ I1 : Int → World → Prop, ∃ I2 : Int → World → Nat, (I1 (IntKind.wrap IntKind.i64 (x2 - 1)) w ∧
         ∀ n3 : Int,
         ∀ w4 : World,
         (I1 n3 w4 →
           (((decide (n3 ≥ 0) = true →
              (0 ≤ n3 ∧
               Calls Tryz.prog (63 : Nat) (Array.mk [Value.pointer (some (Addr.mk x0 0 none)), Value.int IntKind.u32 (Int.fdiv x1 (2 ^ min (Int.toNat n3) 32)), Value.int IntKind.i64 1]) (w4) (fun e5 w6 =>
                 (e5 = Ending.returned (Value.tuple (Array.mk [])) ∧
                  (I1 (IntKind.wrap IntKind.i64 (n3 - 1)) w6 ∧
                   I2 (IntKind.wrap IntKind.i64 (n3 - 1)) w6 < I2 n3 w4)))))) ∧
            (decide (n3 ≥ 0) = false →
              R (Value.tuple (Array.mk [])) w4))))))))
theorem vc_bitin_Writer_Code_ok {x0 : Nat} {x1 : Int} {x2 : Int} {w : World} {R : Value → World → Prop} {R' : Ending → World → Prop} (h : vc_bitin_Writer_Code x0 x1 x2 w R) (hR : ∀ v w', R v w' → R' (.returned v) w') :
    Calls Tryz.prog 65 #[.pointer (some ⟨x0, 0, none⟩), .int .u32 x1, .int .i64 x2] w R' :=
  calls_of_body (vs := [(.pointer (some ⟨x0, 0, none⟩), true), (.int .u32 x1, false), (.int .i64 x2, false)]) (ty := ty) (ann := ⟨[], [(2, [(6, .int .i64)])], [], []⟩) (c := Tryz.f65.body.getD .skip) (by kernel_rfl) Tryz.func65 (by kernel_rfl) (by kernel_rfl) (Eq.mp (by kernel_rfl) h) hR
/-- (*bitin.Writer).Text -/
def vc_bitin_Writer_Text (x0 : Nat) (w : World) (R : Value → World → Prop) : Prop :=
  ∃ n1 : Int, (World.cell? w (Addr.mk x0 2 none) = some (Value.int IntKind.i64 n1) ∧
   (((decide (n1 > 0) = true →
      ∀ w2 : World,
      (Drew w w2 →
        ∃ I3 : World → Prop, (I3 w2 ∧
         ∃ l4 : Sl, ((∀ w5 : World,
          (I3 w5 →
            World.cell? w5 (Addr.mk x0 0 none) = some (Value.slice l4.1 l4.2 l4.3))) ∧
          ∃ n6 : Int, ((∀ w7 : World,
           (I3 w7 →
             World.cell? w7 (Addr.mk x0 1 none) = some (Value.int IntKind.u64 n6))) ∧
           ∃ s8 : ByteArray, ((∀ w9 : World,
            (I3 w9 →
              Sem.run Tryz.prog (convert 43 9 (Value.slice l4.1 l4.2 l4.3)) w9 = Result.ok (Value.string s8) w9)) ∧
            ∀ w10 : World,
            (w10 = World.alloc w2 (Obj.cells (Array.mk [Value.int IntKind.u8 (IntKind.wrap IntKind.u8 n6)]) 5) →
              (I3 w10 ∧
               ∃ w11 : World, ∃ s12 : ByteArray, (Sem.run Tryz.prog (convert 43 9 (Value.slice (some (Addr.mk (Array.size (World.heap w2)) 0 none)) 1 1)) w10 = Result.ok (Value.string s12) w11 ∧
                (I3 w11 ∧
                 (ByteArray.size s8 + ByteArray.size s12 ≤ 9223372036854775807 ∧
                  R (Value.string (s8 ++ s12)) w11)))))))))))) ∧
    (decide (n1 > 0) = false →
      ∃ l13 : Sl, (World.cell? w (Addr.mk x0 0 none) = some (Value.slice l13.1 l13.2 l13.3) ∧
       ∃ w14 : World, ∃ s15 : ByteArray, (Sem.run Tryz.prog (convert 43 9 (Value.slice l13.1 l13.2 l13.3)) w = Result.ok (Value.string s15) w14 ∧
        R (Value.string s15) w14)))))
theorem vc_bitin_Writer_Text_ok {x0 : Nat} {w : World} {R : Value → World → Prop} {R' : Ending → World → Prop} (h : vc_bitin_Writer_Text x0 w R) (hR : ∀ v w', R v w' → R' (.returned v) w') :
    Calls Tryz.prog 69 #[.pointer (some ⟨x0, 0, none⟩)] w R' :=
  calls_of_body (vs := [(.pointer (some ⟨x0, 0, none⟩), true)]) (ty := ty) (ann := ⟨[], [], [(2, .held [(0, true), (1, true), (2, true), (3, true), (5, true), (6, true), (7, true), (8, true), (9, true), (4, true), (10, false), (11, false), (12, true), (13, true)])], []⟩) (c := Tryz.f69.body.getD .skip) (by kernel_rfl) Tryz.func69 (by kernel_rfl) (by kernel_rfl) (Eq.mp (by kernel_rfl) h) hR
/-- (*bitin.Writer).Align -/
def vc_bitin_Writer_Align (x0 : Nat) (w : World) (R : Value → World → Prop) : Prop :=
  ∃ n1 : Int, (World.cell? w (Addr.mk x0 2 none) = some (Value.int IntKind.i64 n1) ∧
   (((decide (n1 > 0) = true →
      ∃ n2 : Int, (World.cell? w (Addr.mk x0 2 none) = some (Value.int IntKind.i64 n2) ∧
       Calls Tryz.prog (63 : Nat) (Array.mk [Value.pointer (some (Addr.mk x0 0 none)), Value.int IntKind.u32 0, Value.int IntKind.i64 (IntKind.wrap IntKind.i64 (8 - n2))]) (w) (fun e3 w4 =>
         (e3 = Ending.returned (Value.tuple (Array.mk [])) ∧
          R (Value.tuple (Array.mk [])) w4))))) ∧
    (decide (n1 > 0) = false →
      R (Value.tuple (Array.mk [])) w)))
theorem vc_bitin_Writer_Align_ok {x0 : Nat} {w : World} {R : Value → World → Prop} {R' : Ending → World → Prop} (h : vc_bitin_Writer_Align x0 w R) (hR : ∀ v w', R v w' → R' (.returned v) w') :
    Calls Tryz.prog 133 #[.pointer (some ⟨x0, 0, none⟩)] w R' :=
  calls_of_body (vs := [(.pointer (some ⟨x0, 0, none⟩), true)]) (ty := ty) (ann := ⟨[], [], [], []⟩) (c := Tryz.f133.body.getD .skip) (by kernel_rfl) Tryz.func133 (by kernel_rfl) (by kernel_rfl) (Eq.mp (by kernel_rfl) h) hR
/-- (*bitin.Writer).Bytes -/
def vc_bitin_Writer_Bytes (x0 : Nat) (x1 : ByteArray) (w : World) (R : Value → World → Prop) : Prop :=
  Calls Tryz.prog (133 : Nat) (Array.mk [Value.pointer (some (Addr.mk x0 0 none))]) (w) (fun e1 w2 =>
    (e1 = Ending.returned (Value.tuple (Array.mk [])) ∧
     ∃ l3 : Sl, (World.cell? w2 (Addr.mk x0 0 none) = some (Value.slice l3.1 l3.2 l3.3) ∧
      ∃ w4 : World, ∃ l5 : Sl, (Sem.run Tryz.prog (Builtin.append_ (Array.mk [43, 9]) 43 (Array.mk [Value.slice l3.1 l3.2 l3.3, Value.string x1])) w2 = Result.ok (Value.slice l5.1 l5.2 l5.3) w4 ∧
       (Wr w4 (Addr.mk x0 0 none) ∧
        ∀ w6 : World,
        (w6 = World.setCell w4 (Addr.mk x0 0 none) (Value.slice l5.1 l5.2 l5.3) →
          R (Value.tuple (Array.mk [])) w6))))))
theorem vc_bitin_Writer_Bytes_ok {x0 : Nat} {x1 : ByteArray} {w : World} {R : Value → World → Prop} {R' : Ending → World → Prop} (h : vc_bitin_Writer_Bytes x0 x1 w R) (hR : ∀ v w', R v w' → R' (.returned v) w') :
    Calls Tryz.prog 106 #[.pointer (some ⟨x0, 0, none⟩), .string x1] w R' :=
  calls_of_body (vs := [(.pointer (some ⟨x0, 0, none⟩), true), (.string x1, false)]) (ty := ty) (ann := ⟨[], [], [], []⟩) (c := Tryz.f106.body.getD .skip) (by kernel_rfl) Tryz.func106 (by kernel_rfl) (by kernel_rfl) (Eq.mp (by kernel_rfl) h) hR
end Go.Proofs.YtcnpekohkbjnnaaGreatDoor

/- What each method of the bit writer does, for every writer that is in order. Conditions: there are fewer than 2 to the 40th bits; a code's bits are a number of 32 bits. -/
set_option linter.unusedVariables false
namespace Go.Proofs.YtcnpekohkbjnnaaGreatDoor
open Go Vc BitsM Go.Proofs

theorem elU8 : El Tryz.prog T_S_uint8 T_uint8 (.int .u8 0) 1 := ⟨by kernel_rfl, by kernel_rfl, rfl⟩
/-- A writer that has l, of which m bytes are out. -/
structure WrAt (w : World) (b : Nat) (sl : Sl) (l : List Bool) (m : Nat) : Prop where
  lo : 8 * m ≤ l.length
  blk : w.heap[b]? = some (.cells #[.slice sl.a sl.len sl.cap, .int .u64 ((num (l.drop (8 * m)) : Nat) : Int), .int .i64 ((l.length - 8 * m : Nat) : Int)] T_bitin_Writer (0, 0))
  own : Vc.Own w (b + 1) T_uint8 sl (byteV (bytesOf l m))
/-- A writer in order. -/
def Wrt (w : World) (b : Nat) (sl : Sl) (l : List Bool) : Prop := WrAt w b sl l (l.length / 8) ∧ l.length ≤ 1099511627776
/-- The blocks that a writer's methods write. -/
def WX (b : Nat) (sl : Sl) (k : Nat) : Prop := k = b ∨ At sl k
section
variable {w w2 : World} {b : Nat} {sl : Sl} {l : List Bool} {m : Nat}
theorem WrAt.c0 (h : WrAt w b sl l m) : w.cell? ⟨b, 0, none⟩ = some (.slice sl.a sl.len sl.cap) := by rw [cell_blk h.blk]; rfl
theorem WrAt.c1 (h : WrAt w b sl l m) : w.cell? ⟨b, 1, none⟩ = some (.int .u64 ((num (l.drop (8 * m)) : Nat) : Int)) := by rw [cell_blk h.blk]; rfl
theorem WrAt.c2 (h : WrAt w b sl l m) : w.cell? ⟨b, 2, none⟩ = some (.int .i64 ((l.length - 8 * m : Nat) : Int)) := by rw [cell_blk h.blk]; rfl
theorem WrAt.keep (h : WrAt w b sl l m) {X : Nat → Prop} (hf : Fr X w w2) (hx : ¬ X b) (hs : ∀ y, sl.a = some y → ¬ X y.block) : WrAt w2 b sl l m := ⟨h.lo, hf.keep h.blk hx, h.own.keep hf hs⟩
theorem WrAt.drew (h : WrAt w b sl l m) (d : Drew w w2) : WrAt w2 b sl l m := h.keep (.drew (fun _ => False) d) (by simp) (by simp)
theorem Wrt.keep (h : Wrt w b sl l) {X : Nat → Prop} (hf : Fr X w w2) (hx : ¬ X b) (hs : ∀ y, sl.a = some y → ¬ X y.block) : Wrt w2 b sl l := ⟨h.1.keep hf hx hs, h.2⟩
theorem Wrt.lt (h : Wrt w b sl l) : b < w.heap.size := lt_blk h.1.blk
/-- A writer that has nothing. -/
theorem Wrt.zero {w : World} {b : Nat} (h : w.heap[b]? = some (.cells #[.slice none 0 0, .int .u64 0, .int .i64 0] T_bitin_Writer)) : Wrt w b ⟨none, 0, 0⟩ [] :=
  ⟨⟨by simp, h, .nil _ _ _⟩, by simp⟩
theorem num_or (l : List Bool) (y : Nat) : num l ||| (y * 2 ^ l.length) = num l + 2 ^ l.length * y := by
  rw [Nat.mul_comm y, Nat.or_comm, ← Nat.two_pow_add_eq_or_of_lt (num_lt l), Nat.add_comm]
end

/-- The lowest n bits of x are put. -/
theorem wbits_spec {w : World} {b : Nat} {sl : Sl} {l : List Bool} (h : Wrt w b sl l) {x n : Nat} (hx : x < 4294967296) (hn : n ≤ 32) (hl : l.length + n ≤ 1099511627776) :
    Calls Tryz.prog F_bitin_Writer_Bits #[.pointer (some ⟨b, 0, none⟩), .int .u32 x, .int .i64 n] w fun e w' =>
      e = .returned (.tuple #[]) ∧ ∃ sl', Wrt w' b sl' (l ++ lowB n x) ∧ Fr (WX b sl) w w' ∧ Since w sl sl' := by
  refine vc_bitin_Writer_Bits_ok (R := fun v w' => v = .tuple #[] ∧ ∃ sl', Wrt w' b sl' (l ++ lowB n x) ∧ Fr (WX b sl) w w' ∧ Since w sl sl') ?_ (fun v w' h => ⟨by rw [h.1], h.2⟩)
  refine ⟨fun hlt => absurd (of_decide_eq_true hlt) (by omega), fun _ => ⟨fun hgt => absurd (of_decide_eq_true hgt) (by omega), fun _ => ?_⟩⟩
  intro w1 d1
  obtain ⟨h, _⟩ := h
  have h1 := h.drew d1
  have hlen : (l.drop (8 * (l.length / 8))).length = l.length - 8 * (l.length / 8) := List.length_drop
  have hnum := num_lt (l.drop (8 * (l.length / 8)))
  rw [hlen] at hnum
  have hp1 : 2 ^ (l.length - 8 * (l.length / 8)) ≤ 2 ^ 7 := Nat.pow_le_pow_right (by decide) (by omega)
  refine ⟨_, h1.c1, by omega, _, h1.c2, by omega, wr_blk h1.blk (by simp), ?_⟩
  have hhold : IntKind.u64.wrap (((BitVec.ofInt 64 ((num (l.drop (8 * (l.length / 8))) : Nat) : Int) ||| BitVec.ofInt 64 (IntKind.u64.wrap (IntKind.u64.wrap (((BitVec.ofInt 64 (IntKind.u64.wrap (x : Int)) &&& BitVec.ofInt 64 (IntKind.u64.wrap (IntKind.u64.wrap (1 * 2 ^ min ((n : Int)).toNat 64) - 1))).toNat : Nat) : Int) * 2 ^ min ((l.length - 8 * (l.length / 8) : Nat) : Int).toNat 64))).toNat : Nat) : Int) = ((num ((l ++ lowB n x).drop (8 * (l.length / 8))) : Nat) : Int) := by
    have hm : min ((n : Int)).toNat 64 = n := by omega
    have hm2 : min ((l.length - 8 * (l.length / 8) : Nat) : Int).toNat 64 = l.length - 8 * (l.length / 8) := by omega
    have hp : 2 ^ n ≤ 2 ^ 32 := Nat.pow_le_pow_right (by decide) hn
    have h1 := Nat.two_pow_pos n
    have hc : (2 : Int) ^ n = ((2 ^ n : Nat) : Int) := by push_cast; rfl
    have hmask : IntKind.u64.wrap (IntKind.u64.wrap (1 * 2 ^ min ((n : Int)).toNat 64) - 1) = ((2 ^ n - 1 : Nat) : Int) := by
      rw [hm, Int.one_mul, hc, wrap_u64 (x := ((2 ^ n : Nat) : Int)) (by omega) (by omega), wrap_u64 (by omega) (by omega)]
      omega
    have hand : x &&& (2 ^ n - 1) = x % 2 ^ n := Nat.and_two_pow_sub_one_eq_mod x n
    have hxm : x % 2 ^ n < 2 ^ n := Nat.mod_lt _ h1
    rw [hmask, wrap_u64 (x := (x : Int)) (by omega) (by omega), and_nat 64 _ _ (by omega) (by omega), hand, hm2]
    have hc2 : (2 : Int) ^ (l.length - 8 * (l.length / 8)) = ((2 ^ (l.length - 8 * (l.length / 8)) : Nat) : Int) := by push_cast; rfl
    have hmul : x % 2 ^ n * 2 ^ (l.length - 8 * (l.length / 8)) ≤ 2 ^ 32 * 2 ^ 7 := Nat.mul_le_mul (by omega) hp1
    rw [wrap_u64 (x := ((x % 2 ^ n : Nat) : Int)) (by omega) (by omega), hc2, ← Int.natCast_mul, wrap_u64 (x := ((x % 2 ^ n * 2 ^ (l.length - 8 * (l.length / 8)) : Nat) : Int)) (by omega) (by omega)]
    rw [or_nat 64 _ _ (by omega) (by omega)]
    have hor := num_or (l.drop (8 * (l.length / 8))) (x % 2 ^ n)
    rw [hlen] at hor
    rw [hor, List.drop_append_of_le_length (by omega), num_append, num_lowB, hlen]
    have : 2 ^ (l.length - 8 * (l.length / 8)) * (x % 2 ^ n) ≤ 2 ^ 32 * 2 ^ 7 := by rw [Nat.mul_comm]; exact hmul
    exact wrap_u64 (by omega) (by omega)
  rw [hhold]
  rintro w4 rfl
  have b1 := set_blk h1.blk 1 (.int .u64 ((num ((l ++ lowB n x).drop (8 * (l.length / 8))) : Nat) : Int))
  refine ⟨((l.length - 8 * (l.length / 8) : Nat) : Int), by rw [cell_blk b1]; rfl, wr_blk b1 (by simp), ?_⟩
  have e2 : IntKind.i64.wrap (((l.length - 8 * (l.length / 8) : Nat) : Int) + (n : Int)) = (((l ++ lowB n x).length - 8 * (l.length / 8) : Nat) : Int) := by
    rw [List.length_append, lowB_length, wrap_i64 (by omega) (by omega)]; omega
  rw [e2]
  rintro w6 rfl
  have b2 := set_blk b1 2 (.int .i64 (((l ++ lowB n x).length - 8 * (l.length / 8) : Nat) : Int))
  have hLl : (l ++ lowB n x).length = l.length + n := by rw [List.length_append, lowB_length]
  have hbo : bytesOf (l ++ lowB n x) (l.length / 8) = bytesOf l (l.length / 8) := bytesOf_append _ _ _ (by omega)
  generalize l ++ lowB n x = L at b1 b2 hLl hbo ⊢
  have hfr : Fr (· = b) w _ := ((Fr.drew (· = b) d1).trans' (.set (· = b) _ (a := ⟨b, 1, none⟩) (.int .u64 ((num (L.drop (8 * (l.length / 8))) : Nat) : Int)) rfl)).trans' (.set (· = b) _ (a := ⟨b, 2, none⟩) (.int .i64 ((L.length - 8 * (l.length / 8) : Nat) : Int)) rfl)
  refine ⟨fun w9 => ∃ sl' m', WrAt w9 b sl' L m' ∧ L.length < 8 * m' + 64 ∧ l.length / 8 ≤ m' ∧ Fr (WX b sl) w w9 ∧ Since w sl sl', fun w9 => match w9.cell? ⟨b, 2, none⟩ with | some (.int _ n) => n.toNat | _ => 0, ⟨sl, l.length / 8, ⟨by omega, b2, ?_⟩, by omega, Nat.le_refl _, hfr.mono (fun _ _ h => .inl h), .refl _ _⟩, ?_⟩
  · rw [hbo]
    exact h.own.keep hfr (fun y hy => by have := (h.own.blk hy).1; omega)
  rintro w9 ⟨sl', m', h9, hhi, hmm, hf9, hs9⟩
  refine ⟨_, h9.c2, fun hge => ?_, fun hlt => ?_⟩
  · have hge := of_decide_eq_true hge
    have hge' : 8 * m' + 8 ≤ L.length := by omega
    intro w11 d11
    have h11 := h9.drew d11
    have hf11 : Fr (WX b sl) w w11 := hf9.trans' (.drew _ d11)
    refine ⟨fun w => w.heap[b]? = w11.heap[b]?, rfl, sl', fun w hw => by rw [cell_blk (hw.trans h11.blk)]; rfl, _, fun w hw => by rw [cell_blk (hw.trans h11.blk)]; rfl, ?_⟩
    intro w17 hw17
    have hne : b < w11.heap.size := lt_blk h11.blk
    have hbyte : IntKind.u8.wrap ((num (L.drop (8 * m')) : Nat) : Int) = (((BitsM.byteOf L m').toNat : Nat) : Int) := by
      rw [wrap_u8_mod, byteOf_nat, num_take]; rfl
    rw [hbyte] at hw17
    have hbl : (byteV (bytesOf L m')).length = m' := by rw [List.length_map, bytesOf_length]
    refine ⟨by rw [hw17]; exact alloc_old _ _ hne, ?_⟩
    obtain ⟨w18, l19, hr, ho18, hf18, hs18⟩ := append_one' elU8 h11.own (v := .int .u8 (((BitsM.byteOf L m').toNat : Nat) : Int)) rfl (by rw [hbl]; unfold maxLen; omega) (by rw [hbl]; omega) hne hw17
    have hb18 : w18.heap[b]? = w11.heap[b]? := hf18.blk b hne (fun ⟨y, hy, e⟩ => by have := (h11.own.blk hy).1; omega)
    have k18 := hb18.trans h11.blk
    refine ⟨w18, l19, hr, hb18, wr_blk k18 (by simp), ?_⟩
    rintro w20 rfl
    have c1 := set_blk k18 0 (.slice l19.a l19.len l19.cap)
    refine ⟨((num (L.drop (8 * m')) : Nat) : Int), by rw [cell_blk c1]; rfl, by decide, wr_blk c1 (by simp), ?_⟩
    have e3 : Int.fdiv ((num (L.drop (8 * m')) : Nat) : Int) (2 ^ min (Int.toNat 8) 64) = ((num (L.drop (8 * (m' + 1))) : Nat) : Int) := by
      have hp : (2 : Int) ^ min (Int.toNat 8) 64 = ((2 ^ 8 : Nat) : Int) := rfl
      rw [hp, show 8 * (m' + 1) = 8 * m' + 8 by omega, ← List.drop_drop, num_drop (L.drop (8 * m')), Int.fdiv_eq_ediv_of_nonneg _ (Int.natCast_nonneg _), ← Int.natCast_ediv]
    rw [e3]
    rintro w22 rfl
    have c2 := set_blk c1 1 (.int .u64 ((num (L.drop (8 * (m' + 1))) : Nat) : Int))
    refine ⟨((L.length - 8 * m' : Nat) : Int), by rw [cell_blk c2]; rfl, wr_blk c2 (by simp), ?_⟩
    have e4 : IntKind.i64.wrap (((L.length - 8 * m' : Nat) : Int) - 8) = ((L.length - 8 * (m' + 1) : Nat) : Int) := by rw [wrap_i64 (by omega) (by omega)]; omega
    rw [e4]
    rintro w24 rfl
    have c3 := set_blk c2 2 (.int .i64 ((L.length - 8 * (m' + 1) : Nat) : Int))
    have hf24 : Fr (· = b) w18 _ := ((Fr.set (· = b) _ (a := ⟨b, 0, none⟩) (.slice l19.a l19.len l19.cap) rfl).trans' (.set (· = b) _ (a := ⟨b, 1, none⟩) (.int .u64 ((num (L.drop (8 * (m' + 1))) : Nat) : Int)) rfl)).trans' (.set (· = b) _ (a := ⟨b, 2, none⟩) (.int .i64 ((L.length - 8 * (m' + 1) : Nat) : Int)) rfl)
    have hfin : WrAt _ b l19 L (m' + 1) := ⟨by omega, c3, by
      have := ho18.keep hf24 (fun y hy => by have := (ho18.blk hy).1; omega)
      rw [bytesOf_succ, byteV, List.map_append]; exact this⟩
    refine ⟨⟨l19, m' + 1, hfin, by omega, by omega, ?_, ?_⟩, ?_⟩
    · refine (hf11.trans hf18 ?_).trans hf24 (fun k _ hk => .inl hk)
      rintro k hk ⟨y, hy, rfl⟩
      rcases hs9 y hy with ⟨z, hz, hzb⟩ | hn
      · exact .inr ⟨z, hz, hzb.symm⟩
      · omega
    · exact hs9.trans (w' := w11) hs18 hf11.size
    · have q1 := hfin.c2
      have q2 := h9.c2
      simp only [q1, q2, Int.toNat_natCast]
      omega
  · have hlt := of_decide_eq_false hlt
    have : m' = L.length / 8 := by have := h9.lo; omega
    subst this
    exact ⟨rfl, sl', ⟨h9, by omega⟩, hf9, hs9⟩
theorem wbits_bad {w : World} {b : Nat} {x n : Int} (hn : n < 0 ∨ 32 < n) :
    Calls Tryz.prog F_bitin_Writer_Bits #[.pointer (some ⟨b, 0, none⟩), .int .u32 x, .int .i64 n] w fun e w' => e = .returned (.tuple #[]) ∧ w' = w := by
  refine vc_bitin_Writer_Bits_ok (R := fun v w' => v = .tuple #[] ∧ w' = w) ?_ (fun v w' h => ⟨by rw [h.1], h.2⟩)
  refine ⟨fun _ => ⟨rfl, rfl⟩, fun h1 => ⟨fun _ => ⟨rfl, rfl⟩, fun h2 => ?_⟩⟩
  have h1 := of_decide_eq_false h1; have h2 := of_decide_eq_false h2
  omega
theorem WX.back {w : World} {b : Nat} {sl sl' : Sl} (h : Since w sl sl') {k : Nat} (hk : k < w.heap.size) (hx : WX b sl' k) : WX b sl k := by
  rcases hx with h1 | ⟨y, hy, rfl⟩
  · exact .inl h1
  · rcases h y hy with ⟨z, hz, hb⟩ | hn
    · exact .inr ⟨z, hz, hb.symm⟩
    · omega

/-- A code's bits are put, the highest first. -/
theorem wcode_spec {w : World} {b : Nat} {sl : Sl} {l : List Bool} (h : Wrt w b sl l) {x n : Nat} (hx : x < 4294967296) (h1 : 1 ≤ n) (hn : n ≤ 32) (hl : l.length + n ≤ 1099511627776) :
    Calls Tryz.prog F_bitin_Writer_Code #[.pointer (some ⟨b, 0, none⟩), .int .u32 x, .int .i64 n] w fun e w' =>
      e = .returned (.tuple #[]) ∧ ∃ sl', Wrt w' b sl' (l ++ (lowB n x).reverse) ∧ Fr (WX b sl) w w' ∧ Since w sl sl' := by
  refine vc_bitin_Writer_Code_ok (R := fun v w' => v = .tuple #[] ∧ ∃ sl', Wrt w' b sl' (l ++ (lowB n x).reverse) ∧ Fr (WX b sl) w w' ∧ Since w sl sl') ?_ (fun v w' h => ⟨by rw [h.1], h.2⟩)
  refine ⟨fun hlt => absurd (of_decide_eq_true hlt) (by omega), fun _ => ⟨fun hgt => absurd (of_decide_eq_true hgt) (by omega), fun _ => ?_⟩⟩
  refine ⟨fun i w' => ∃ (k : Nat) (sl' : Sl), k ≤ n ∧ i = (k : Int) - 1 ∧ Wrt w' b sl' (l ++ ((lowB n x).drop k).reverse) ∧ Fr (WX b sl) w w' ∧ Since w sl sl', fun i _ => (i + 1).toNat,
    ⟨n, sl, Nat.le_refl _, by rw [wrap_i64 (by omega) (by omega)], by rw [List.drop_eq_nil_of_le (by rw [lowB_length]; omega)]; simpa using h, .refl _ _, .refl _ _⟩, ?_⟩
  rintro i w4 ⟨k, sl', hk, rfl, h4, hf, hs⟩
  refine ⟨fun h => ?_, fun h => ?_⟩
  · have h := of_decide_eq_true h
    have hm : min ((k : Int) - 1).toNat 32 = k - 1 := by omega
    have hp : ((2 : Int) ^ (k - 1)) = ((2 ^ (k - 1) : Nat) : Int) := by push_cast; rfl
    rw [hm, hp, Int.fdiv_eq_ediv_of_nonneg _ (Int.natCast_nonneg _), ← Int.natCast_ediv]
    refine ⟨by omega, ?_⟩
    have hxl : x / 2 ^ (k - 1) ≤ x := Nat.div_le_self _ _
    have hlen : (l ++ ((lowB n x).drop k).reverse).length = l.length + (n - k) := by rw [List.length_append, List.length_reverse, List.length_drop, lowB_length]
    refine (wbits_spec h4 (x := x / 2 ^ (k - 1)) (n := 1) (by omega) (by decide) (by omega)).mono ?_
    rintro e w6 ⟨rfl, sl2, h6, f6, s6⟩
    have e1 : IntKind.i64.wrap ((k : Int) - 1 - 1) = ((k - 1 : Nat) : Int) - 1 := by rw [wrap_i64 (by omega) (by omega)]; omega
    rw [e1]
    refine ⟨rfl, ⟨k - 1, sl2, by omega, rfl, ?_, hf.trans f6 (fun q hq hx => WX.back hs hq hx), hs.trans s6 hf.size⟩, by dsimp only; omega⟩
    have hlt : k - 1 < (lowB n x).length := by rw [lowB_length]; omega
    have hd : (lowB n x).drop (k - 1) = (lowB n x)[k - 1] :: (lowB n x).drop k := by
      rw [List.drop_eq_getElem_cons hlt, show k - 1 + 1 = k by omega]
    have hb : lowB 1 (x / 2 ^ (k - 1)) = [(lowB n x)[k - 1]] := by
      have h1 := lowB_get n x (k - 1) (by omega)
      rw [List.getElem?_eq_getElem hlt] at h1
      simp only [Option.some.injEq] at h1
      rw [h1, Nat.testBit_eq_decide_div_mod_eq]
      simp only [lowB, List.cons.injEq, and_true]
      rfl
    rw [hb, List.append_assoc] at h6
    rw [hd, List.reverse_cons]
    exact h6
  · have h := of_decide_eq_false h
    have : k = 0 := by omega
    subst this
    exact ⟨rfl, sl', h4, hf, hs⟩
theorem wcode_bad {w : World} {b : Nat} {x n : Int} (hn : n < 1 ∨ 32 < n) :
    Calls Tryz.prog F_bitin_Writer_Code #[.pointer (some ⟨b, 0, none⟩), .int .u32 x, .int .i64 n] w fun e w' => e = .returned (.tuple #[]) ∧ w' = w := by
  refine vc_bitin_Writer_Code_ok (R := fun v w' => v = .tuple #[] ∧ w' = w) ?_ (fun v w' h => ⟨by rw [h.1], h.2⟩)
  refine ⟨fun _ => ⟨rfl, rfl⟩, fun h1 => ⟨fun _ => ⟨rfl, rfl⟩, fun h2 => ?_⟩⟩
  have h1 := of_decide_eq_false h1; have h2 := of_decide_eq_false h2
  omega

/-- The byte that has been begun is filled. -/
theorem walign_spec {w : World} {b : Nat} {sl : Sl} {l : List Bool} (h : Wrt w b sl l) (hl : l.length + 8 ≤ 1099511627776) :
    Calls Tryz.prog F_bitin_Writer_Align #[.pointer (some ⟨b, 0, none⟩)] w fun e w' =>
      e = .returned (.tuple #[]) ∧ ∃ sl', Wrt w' b sl' (fill8 l) ∧ Fr (WX b sl) w w' ∧ Since w sl sl' := by
  refine vc_bitin_Writer_Align_ok (R := fun v w' => v = .tuple #[] ∧ ∃ sl', Wrt w' b sl' (fill8 l) ∧ Fr (WX b sl) w w' ∧ Since w sl sl') ?_ (fun v w' h => ⟨by rw [h.1], h.2⟩)
  refine ⟨_, h.1.c2, fun hgt => ⟨_, h.1.c2, ?_⟩, fun hle => ?_⟩
  · have hgt := of_decide_eq_true hgt
    have e1 : IntKind.i64.wrap (8 - ((l.length - 8 * (l.length / 8) : Nat) : Int)) = ((8 - l.length % 8 : Nat) : Int) := by rw [wrap_i64 (by omega) (by omega)]; omega
    rw [e1]
    refine (wbits_spec h (x := 0) (n := 8 - l.length % 8) (by decide) (by omega) (by omega)).mono ?_
    rintro e w4 ⟨rfl, sl', h4, f4, s4⟩
    rw [fill8_lowB l (by omega)] at h4
    exact ⟨rfl, rfl, sl', h4, f4, s4⟩
  · have hle := of_decide_eq_false hle
    rw [fill8_whole l (by omega)]
    exact ⟨rfl, sl, h, .refl _ _, .refl _ _⟩

/-- Whole bytes are put, behind an Align. -/
theorem wbytes_spec {w : World} {b : Nat} {sl : Sl} {l : List Bool} (h : Wrt w b sl l) (s : ByteArray) (hl : l.length + 8 + 8 * s.size ≤ 1099511627776) :
    Calls Tryz.prog F_bitin_Writer_Bytes #[.pointer (some ⟨b, 0, none⟩), .string s] w fun e w' =>
      e = .returned (.tuple #[]) ∧ ∃ sl', Wrt w' b sl' (fill8 l ++ sbits s.data.toList) ∧ Fr (WX b sl) w w' ∧ Since w sl sl' := by
  refine vc_bitin_Writer_Bytes_ok (R := fun v w' => v = .tuple #[] ∧ ∃ sl', Wrt w' b sl' (fill8 l ++ sbits s.data.toList) ∧ Fr (WX b sl) w w' ∧ Since w sl sl') ?_ (fun v w' h => ⟨by rw [h.1], h.2⟩)
  refine (walign_spec h (by omega)).mono ?_
  rintro e w2 ⟨rfl, sl2, h2, f2, s2⟩
  have hfl := fill8_length l
  have hss : s.data.toList.length = s.size := by simp
  have hq : (fill8 l).length / 8 = (l.length + 7) / 8 := by omega
  obtain ⟨g, _⟩ := h2
  rw [hq] at g
  have hb2 := lt_blk g.blk
  have hxl : (byteV (bytesOf (fill8 l) ((l.length + 7) / 8))).length = (l.length + 7) / 8 := by rw [List.length_map, bytesOf_length]
  obtain ⟨w4, l5, hr, ho, hf, hs⟩ := append_str (u := T_string) elU8 (by kernel_rfl) g.own s (by rw [hxl]; omega) hb2
  refine ⟨rfl, sl2, g.c0, w4, l5, hr, ?_⟩
  have k4 := hf.keep g.blk (fun ⟨y, hy, e⟩ => by have := (g.own.blk hy).1; omega)
  refine ⟨wr_blk k4 (by simp), ?_⟩
  rintro w6 rfl
  have c0 := set_blk k4 0 (.slice l5.a l5.len l5.cap)
  have hd0 : (fill8 l).drop (8 * ((l.length + 7) / 8)) = [] := List.drop_eq_nil_of_le (by omega)
  have hL : (fill8 l ++ sbits s.data.toList).length = 8 * ((l.length + 7) / 8 + s.size) := by rw [List.length_append, sbits_length, hss]; omega
  have hset : Fr (· = b) w4 _ := Fr.set (· = b) _ (a := ⟨b, 0, none⟩) (.slice l5.a l5.len l5.cap) rfl
  refine ⟨rfl, l5, ⟨⟨by omega, ?_, ?_⟩, by omega⟩, (f2.trans hf (fun k hk hx => WX.back s2 hk (.inr hx))).trans hset (fun k _ hk => .inl hk), s2.trans hs f2.size⟩
  · have hd1 : (fill8 l ++ sbits s.data.toList).drop (8 * ((fill8 l ++ sbits s.data.toList).length / 8)) = [] := List.drop_eq_nil_of_le (by omega)
    have hn0 : (fill8 l).length - 8 * ((l.length + 7) / 8) = 0 := by omega
    have hn1 : (fill8 l ++ sbits s.data.toList).length - 8 * ((fill8 l ++ sbits s.data.toList).length / 8) = 0 := by omega
    rw [hd1, hn1]
    rw [hd0, hn0] at c0
    exact c0
  · have hbs := bytesOf_sbits (fill8 l) ((l.length + 7) / 8) hfl s.data.toList s.data.toList.length (Nat.le_refl _)
    rw [List.take_length, hss] at hbs
    rw [show (fill8 l ++ sbits s.data.toList).length / 8 = (l.length + 7) / 8 + s.size by omega, hbs, byteV, List.map_append]
    exact ho.keep hset (fun y hy => by have := (ho.blk hy).1; omega)

/-- The bytes. -/
theorem wtext_spec {w : World} {b : Nat} {sl : Sl} {l : List Bool} (h : Wrt w b sl l) :
    Calls Tryz.prog F_bitin_Writer_Text #[.pointer (some ⟨b, 0, none⟩)] w fun e w' => e = .returned (.string ⟨(textOf l).toArray⟩) ∧ Fr (fun _ => False) w w' := by
  refine vc_bitin_Writer_Text_ok (R := fun v w' => v = .string ⟨(textOf l).toArray⟩ ∧ Fr (fun _ => False) w w') ?_ (fun v w' h => ⟨by rw [h.1], h.2⟩)
  obtain ⟨g, hl⟩ := h
  have hlen : (bytesOf l (l.length / 8)).length = sl.len := by rw [g.own.len, List.length_map]
  refine ⟨_, g.c2, fun hgt => ?_, fun hle => ?_⟩
  · have hgt := of_decide_eq_true hgt
    intro w2 d
    have g2 := g.drew d
    have hc : ∀ w', Fr (fun _ => False) w2 w' → (convert T_S_uint8 T_string (.slice sl.a sl.len sl.cap)).run Tryz.prog w' = .ok (.string ⟨(bytesOf l (l.length / 8)).toArray⟩) w' := fun w' f =>
      bytes_str elU8.sl (by kernel_rfl) (by kernel_rfl) _ ((g2.keep f (by simp) (by simp)).own.reads) hlen
    refine ⟨Fr (fun _ => False) w2, .refl _ _, sl, fun w' f => (g2.keep f (by simp) (by simp)).c0, _, fun w' f => (g2.keep f (by simp) (by simp)).c1, _, fun w' f => hc w' f, ?_⟩
    rintro w10 rfl
    have f10 : Fr (fun _ => False) w2 _ := Fr.alloc (fun _ => False) w2 (.cells #[.int .u8 (IntKind.u8.wrap ((num (l.drop (8 * (l.length / 8))) : Nat) : Int))] T_uint8)
    refine ⟨f10, ?_⟩
    have hbyte : IntKind.u8.wrap ((num (l.drop (8 * (l.length / 8))) : Nat) : Int) = (((BitsM.byteOf l (l.length / 8)).toNat : Nat) : Int) := by
      rw [wrap_u8_mod, byteOf_nat, num_take]; rfl
    rw [hbyte] at f10 ⊢
    have hr : Reads (w2.alloc (.cells #[.int .u8 (((BitsM.byteOf l (l.length / 8)).toNat : Nat) : Int)] T_uint8)) (some ⟨w2.heap.size, 0, none⟩) (byteV [BitsM.byteOf l (l.length / 8)]) := by
      intro i v hv
      refine ⟨_, rfl, ?_⟩
      rw [add_lit, cell_blk (alloc_new _ _), ← hv, Nat.zero_add]
      cases i <;> simp
    refine ⟨_, _, bytes_str elU8.sl (by kernel_rfl) (by kernel_rfl) _ hr rfl, f10, ?_, ?_, (Fr.drew (fun _ => False) d).trans' f10⟩
    · show (bytesOf l (l.length / 8)).toArray.size + 1 ≤ _
      rw [List.size_toArray, bytesOf_length]; omega
    · congr 1
      unfold textOf
      rw [show (l.length + 7) / 8 = l.length / 8 + 1 by omega, bytesOf_succ]
      apply ByteArray.ext
      rw [ByteArray.data_append]
      simp
  · have hle := of_decide_eq_false hle
    refine ⟨sl, g.c0, w, _, bytes_str elU8.sl (by kernel_rfl) (by kernel_rfl) _ g.own.reads hlen, ?_, .refl _ _⟩
    unfold textOf
    rw [show (l.length + 7) / 8 = l.length / 8 by omega]
end Go.Proofs.YtcnpekohkbjnnaaGreatDoor

/- Formulas of 5 Go functions of this seat (written by a program of the author's, vcgen.py), and that each is enough for the call. No condition. -/
set_option linter.unusedVariables false
namespace Go.Proofs.YtcnpekohkbjnnaaGreatDoor
open Go Vc Go.Proofs
set_option maxRecDepth 100000
/-- inflate.Stored -/
def vc_inflate_Stored (x0 : ByteArray) (w : World) (R : Value → World → Prop) : Prop :=
  ∀ w1 : World,
  (w1 = World.alloc w (Obj.cells (Array.mk [Value.slice none 0 0, Value.int IntKind.u64 0, Value.int IntKind.i64 0]) 107) →
    ∃ I2 : ByteArray → World → Prop, ∃ I3 : ByteArray → World → Nat, (I2 x0 w1 ∧
     ∀ s4 : ByteArray,
     ∀ w5 : World,
     (I2 s4 w5 →
       ∃ I6 : Int → World → Prop, (((((((if 65535 < (↑(ByteArray.size s4) : Int) then 65535 else (↑(ByteArray.size s4) : Int)) == (↑(ByteArray.size s4) : Int)) = true) →
           I6 1 w5)) ∧
         ((((if 65535 < (↑(ByteArray.size s4) : Int) then 65535 else (↑(ByteArray.size s4) : Int)) == (↑(ByteArray.size s4) : Int)) = false) →
           I6 0 w5)) ∧
        ∀ n7 : Int,
        ∀ w8 : World,
        (I6 n7 w8 →
          Calls Tryz.prog (63 : Nat) (Array.mk [Value.pointer (some (Addr.mk (Array.size (World.heap w)) 0 none)), Value.int IntKind.u32 n7, Value.int IntKind.i64 3]) (w8) (fun e9 w10 =>
            (e9 = Ending.returned (Value.tuple (Array.mk [])) ∧
             ∀ w11 : World,
             (Drew w10 w11 →
               ∃ I12 : World → Prop, (I12 w11 ∧
                (((0 ≤ if 65535 < (↑(ByteArray.size s4) : Int) then 65535 else (↑(ByteArray.size s4) : Int)) ∧
                  ((if 65535 < (↑(ByteArray.size s4) : Int) then 65535 else (↑(ByteArray.size s4) : Int)) ≤ (↑(ByteArray.size s4) : Int))) ∧
                 Calls Tryz.prog (107 : Nat) ((Array.mk [Value.int IntKind.u64 (IntKind.wrap IntKind.u64 (if 65535 < (↑(ByteArray.size s4) : Int) then 65535 else (↑(ByteArray.size s4) : Int))), Value.int IntKind.i64 2])) (w11) (fun e13 w14 =>
                   ∃ s15 : ByteArray, (e13 = Ending.returned (Value.string s15) ∧
                    (I12 w14 ∧
                     Calls Tryz.prog (107 : Nat) ((Array.mk [Value.int IntKind.u64 (IntKind.wrap IntKind.u64 (IntKind.wrap IntKind.i64 (↑(BitVec.toNat (BitVec.ofInt 64 (if 65535 < (↑(ByteArray.size s4) : Int) then 65535 else (↑(ByteArray.size s4) : Int)) ^^^ BitVec.ofInt 64 65535)) : Int))), Value.int IntKind.i64 2])) (w14) (fun e16 w17 =>
                       ∃ s18 : ByteArray, (e16 = Ending.returned (Value.string s18) ∧
                        (I12 w17 ∧
                         (ByteArray.size s15 + ByteArray.size s18 ≤ 9223372036854775807 ∧
                          ((ByteArray.size (s15 ++ s18) + ByteArray.size (ByteArray.extract s4 0 (Int.toNat (if 65535 < (↑(ByteArray.size s4) : Int) then 65535 else (↑(ByteArray.size s4) : Int)))) ≤ 9223372036854775807) ∧
                           Calls Tryz.prog (106 : Nat) ((Array.mk [Value.pointer (some (Addr.mk (Array.size (World.heap w)) 0 none)), Value.string (s15 ++ s18 ++ ByteArray.extract s4 0 (Int.toNat (if 65535 < (↑(ByteArray.size s4) : Int) then 65535 else (↑(ByteArray.size s4) : Int))))])) (w17) (fun e19 w20 =>
                             (e19 = Ending.returned (Value.tuple (Array.mk [])) ∧
                              (((0 ≤ if 65535 < (↑(ByteArray.size s4) : Int) then 65535 else (↑(ByteArray.size s4) : Int)) ∧
                                ((if 65535 < (↑(ByteArray.size s4) : Int) then 65535 else (↑(ByteArray.size s4) : Int)) ≤ (↑(ByteArray.size s4) : Int))) ∧
                               ((((n7 == 1) = true →
                                  Calls Tryz.prog (69 : Nat) (Array.mk [Value.pointer (some (Addr.mk (Array.size (World.heap w)) 0 none))]) (w20) (fun e21 w22 =>
                                    ∃ s23 : ByteArray, (e21 = Ending.returned (Value.string s23) ∧
                                     R (Value.string s23) w22)))) ∧
                                ((n7 == 1) = false →
                                  ((I2 (ByteArray.extract s4 (Int.toNat (if 65535 < (↑(ByteArray.size s4) : Int) then 65535 else (↑(ByteArray.size s4) : Int))) (ByteArray.size s4)) w20) ∧
                                   (I3 (ByteArray.extract s4 (Int.toNat (if 65535 < (↑(ByteArray.size s4) : Int) then 65535 else (↑(ByteArray.size s4) : Int))) (ByteArray.size s4)) w20 < I3 s4 w5)))))))))))))))))))))))))
theorem vc_inflate_Stored_ok {x0 : ByteArray} {w : World} {R : Value → World → Prop} {R' : Ending → World → Prop} (h : vc_inflate_Stored x0 w R) (hR : ∀ v w', R v w' → R' (.returned v) w') :
    Calls Tryz.prog 70 #[.string x0] w R' :=
  calls_of_body (vs := [(.string x0, false)]) (ty := ty) (ann := ⟨[(6, [(5, .int .u32)])], [(2, [(0, .str)])], [(7, .held [(0, true), (1, true), (3, true), (4, true), (5, true), (8, true), (9, true), (10, true), (2, false), (6, false), (7, true), (11, true), (12, false)])], []⟩) (c := Tryz.f70.body.getD .skip) (by kernel_rfl) Tryz.func70 (by kernel_rfl) (by kernel_rfl) (Eq.mp (by kernel_rfl) h) hR
/-- (*huff.Table).Code -/
def vc_huff_Table_Code (x0 : Nat) (x1 : Int) (w : World) (R : Value → World → Prop) : Prop :=
  (((decide (x1 < 0) = true →
     R (Value.tuple (Array.mk [Value.int IntKind.u32 0, Value.int IntKind.i64 0])) w)) ∧
   (decide (x1 < 0) = false →
     ∃ l1 : Sl, (World.cell? w (Addr.mk x0 0 none) = some (Value.slice l1.1 l1.2 l1.3) ∧
      (((decide (x1 ≥ (↑l1.2 : Int)) = true →
         R (Value.tuple (Array.mk [Value.int IntKind.u32 0, Value.int IntKind.i64 0])) w)) ∧
       (decide (x1 ≥ (↑l1.2 : Int)) = false →
         ∃ l2 : Sl, (World.cell? w (Addr.mk x0 0 none) = some (Value.slice l2.1 l2.2 l2.3) ∧
          ((0 ≤ x1 ∧
            x1 < (↑l2.2 : Int)) ∧
           ∃ a3 : Addr, (l2.1 = some a3 ∧
            ∃ n4 : Int, (World.cell? w (Addr.add a3 (Int.toNat x1 * 1)) = some (Value.int IntKind.i64 n4) ∧
             ((((n4 == 0) = true →
                R (Value.tuple (Array.mk [Value.int IntKind.u32 0, Value.int IntKind.i64 0])) w)) ∧
              ((n4 == 0) = false →
                ∃ I5 : Int → Int → Int → World → Prop, ∃ I6 : Int → Int → Int → World → Nat, (I5 0 0 1 w ∧
                 ∀ n7 : Int,
                 ∀ n8 : Int,
                 ∀ n9 : Int,
                 ∀ w10 : World,
                 (I5 n7 n8 n9 w10 →
                   (((decide (n9 ≤ 15) = true →
                      ((0 : Int) ≤ (1 : Int) ∧
                       ((0 ≤ n9 ∧
                         n9 < (↑16 : Int)) ∧
                        ∃ n11 : Int, (World.cell? w10 (Addr.add (Addr.mk x0 1 none) (Int.toNat n9 * 1)) = some (Value.int IntKind.i64 n11) ∧
                         ∃ I12 : Int → Int → Int → World → Prop, ∃ I13 : Int → Int → Int → World → Nat, (I12 (IntKind.wrap IntKind.u32 (n7 * 2 ^ min (Int.toNat 1) 32)) n8 0 w10 ∧
                          ∀ n14 : Int,
                          ∀ n15 : Int,
                          ∀ n16 : Int,
                          ∀ w17 : World,
                          (I12 n14 n15 n16 w17 →
                            (((decide (n16 < n11) = true →
                               ∃ l18 : Sl, (World.cell? w17 (Addr.mk x0 17 none) = some (Value.slice l18.1 l18.2 l18.3) ∧
                                ((0 ≤ n15 ∧
                                  n15 < (↑l18.2 : Int)) ∧
                                 ∃ a19 : Addr, (l18.1 = some a19 ∧
                                  ∃ n20 : Int, (World.cell? w17 (Addr.add a19 (Int.toNat n15 * 1)) = some (Value.int IntKind.i64 n20) ∧
                                   ((((n20 == x1) = true →
                                      R (Value.tuple (Array.mk [Value.int IntKind.u32 n14, Value.int IntKind.i64 n9])) w17)) ∧
                                    ((n20 == x1) = false →
                                      (I12 (IntKind.wrap IntKind.u32 (n14 + 1)) (IntKind.wrap IntKind.i64 (n15 + 1)) (IntKind.wrap IntKind.i64 (n16 + 1)) w17 ∧
                                       I13 (IntKind.wrap IntKind.u32 (n14 + 1)) (IntKind.wrap IntKind.i64 (n15 + 1)) (IntKind.wrap IntKind.i64 (n16 + 1)) w17 < I13 n14 n15 n16 w17))))))))) ∧
                             (decide (n16 < n11) = false →
                               (I5 n14 n15 (IntKind.wrap IntKind.i64 (n9 + 1)) w17 ∧
                                I6 n14 n15 (IntKind.wrap IntKind.i64 (n9 + 1)) w17 < I6 n7 n8 n9 w10)))))))))) ∧
                    (decide (n9 ≤ 15) = false →
                      R (Value.tuple (Array.mk [Value.int IntKind.u32 0, Value.int IntKind.i64 0])) w10)))))))))))))))
theorem vc_huff_Table_Code_ok {x0 : Nat} {x1 : Int} {w : World} {R : Value → World → Prop} {R' : Ending → World → Prop} (h : vc_huff_Table_Code x0 x1 w R) (hR : ∀ v w', R v w' → R' (.returned v) w') :
    Calls Tryz.prog 64 #[.pointer (some ⟨x0, 0, none⟩), .int .i64 x1] w R' :=
  calls_of_body (vs := [(.pointer (some ⟨x0, 0, none⟩), true), (.int .i64 x1, false)]) (ty := ty) (ann := ⟨[], [(5, [(6, .int .u32), (7, .int .i64), (8, .int .i64)]), (9, [(6, .int .u32), (7, .int .i64), (42, .int .i64)])], [], []⟩) (c := Tryz.f64.body.getD .skip) (by kernel_rfl) Tryz.func64 (by kernel_rfl) (by kernel_rfl) (Eq.mp (by kernel_rfl) h) hR
/-- inflate.symbolOf#len -/
def vc_inflate_symbolOf_len (x0 : Int) (x1 : Int) (w : World) (R : Value → World → Prop) : Prop :=
  ∃ I1 : Int → World → Prop, ∃ I2 : Int → World → Nat, (I1 x1 w ∧
   ∀ n3 : Int,
   ∀ w4 : World,
   (I1 n3 w4 →
     Calls Tryz.prog (67 : FuncId) (Array.mk [Value.int IntKind.i64 n3]) (w4) (fun e5 w6 =>
       ∃ n7 : Int, ∃ n8 : Int, (e5 = Ending.returned (Value.tuple (Array.mk [Value.int IntKind.i64 n7, Value.int IntKind.i64 n8])) ∧
        (((decide (n7 ≤ x0) = true →
           R (Value.tuple (Array.mk [Value.int IntKind.i64 n3, Value.int IntKind.u32 (IntKind.wrap IntKind.u32 (IntKind.wrap IntKind.i64 (x0 - n7))), Value.int IntKind.i64 n8])) w6)) ∧
         (decide (n7 ≤ x0) = false →
           (I1 (IntKind.wrap IntKind.i64 (n3 - 1)) w6 ∧
            I2 (IntKind.wrap IntKind.i64 (n3 - 1)) w6 < I2 n3 w4)))))))
theorem vc_inflate_symbolOf_len_ok {x0 : Int} {x1 : Int} {w : World} {R : Value → World → Prop} {R' : Ending → World → Prop} (h : vc_inflate_symbolOf_len x0 x1 w R) (hR : ∀ v w', R v w' → R' (.returned v) w') :
    Calls Tryz.prog 66 #[.int .i64 x0, .int .i64 x1, .func (.func 67) #[] #[]] w R' :=
  calls_of_body (vs := [(.int .i64 x0, false), (.int .i64 x1, false), (.func (.func 67) #[] #[], false)]) (ty := ty) (ann := ⟨[], [(3, [(9, .int .i64)])], [], []⟩) (c := Tryz.f66.body.getD .skip) (by kernel_rfl) Tryz.func66 (by kernel_rfl) (by kernel_rfl) (Eq.mp (by kernel_rfl) h) hR
/-- inflate.symbolOf#dist -/
def vc_inflate_symbolOf_dist (x0 : Int) (x1 : Int) (w : World) (R : Value → World → Prop) : Prop :=
  ∃ I1 : Int → World → Prop, ∃ I2 : Int → World → Nat, (I1 x1 w ∧
   ∀ n3 : Int,
   ∀ w4 : World,
   (I1 n3 w4 →
     Calls Tryz.prog (68 : FuncId) (Array.mk [Value.int IntKind.i64 n3]) (w4) (fun e5 w6 =>
       ∃ n7 : Int, ∃ n8 : Int, (e5 = Ending.returned (Value.tuple (Array.mk [Value.int IntKind.i64 n7, Value.int IntKind.i64 n8])) ∧
        (((decide (n7 ≤ x0) = true →
           R (Value.tuple (Array.mk [Value.int IntKind.i64 n3, Value.int IntKind.u32 (IntKind.wrap IntKind.u32 (IntKind.wrap IntKind.i64 (x0 - n7))), Value.int IntKind.i64 n8])) w6)) ∧
         (decide (n7 ≤ x0) = false →
           (I1 (IntKind.wrap IntKind.i64 (n3 - 1)) w6 ∧
            I2 (IntKind.wrap IntKind.i64 (n3 - 1)) w6 < I2 n3 w4)))))))
theorem vc_inflate_symbolOf_dist_ok {x0 : Int} {x1 : Int} {w : World} {R : Value → World → Prop} {R' : Ending → World → Prop} (h : vc_inflate_symbolOf_dist x0 x1 w R) (hR : ∀ v w', R v w' → R' (.returned v) w') :
    Calls Tryz.prog 66 #[.int .i64 x0, .int .i64 x1, .func (.func 68) #[] #[]] w R' :=
  calls_of_body (vs := [(.int .i64 x0, false), (.int .i64 x1, false), (.func (.func 68) #[] #[], false)]) (ty := ty) (ann := ⟨[], [(3, [(9, .int .i64)])], [], []⟩) (c := Tryz.f66.body.getD .skip) (by kernel_rfl) Tryz.func66 (by kernel_rfl) (by kernel_rfl) (Eq.mp (by kernel_rfl) h) hR
/-- inflate.Deflate -/
def vc_inflate_Deflate (x0 : ByteArray) (w : World) (R : Value → World → Prop) : Prop :=
  ∀ w1 : World,
  (w1 = World.alloc w (Obj.cells (Array.mk [Value.slice none 0 0, Value.int IntKind.u64 0, Value.int IntKind.i64 0]) 107) →
    Calls Tryz.prog (62 : Nat) (Array.mk []) (w1) (fun e2 w3 =>
      ∃ p4 : Option Addr, ∃ p5 : Option Addr, (e2 = Ending.returned (Value.tuple (Array.mk [Value.pointer p4, Value.pointer p5])) ∧
       Calls Tryz.prog (63 : Nat) (Array.mk [Value.pointer (some (Addr.mk (Array.size (World.heap w)) 0 none)), Value.int IntKind.u32 3, Value.int IntKind.i64 3]) (w3) (fun e6 w7 =>
         (e6 = Ending.returned (Value.tuple (Array.mk [])) ∧
          ∀ w8 : World,
          (w8 = World.alloc w7 (Obj.map (Array.mk []) 0) →
            ∃ I9 : Int → World → Prop, ∃ I10 : Int → World → Nat, (I9 0 w8 ∧
             ∀ n11 : Int,
             ∀ w12 : World,
             (I9 n11 w12 →
               (((decide (n11 < (↑(ByteArray.size x0) : Int)) = true →
                  ∃ I13 : Int → Int → World → Prop, ((((decide (IntKind.wrap IntKind.i64 (n11 + 3) ≤ (↑(ByteArray.size x0) : Int)) = true →
                      ((0 ≤ n11 ∧
                        (n11 ≤ IntKind.wrap IntKind.i64 (n11 + 3) ∧
                         IntKind.wrap IntKind.i64 (n11 + 3) ≤ (↑(ByteArray.size x0) : Int))) ∧
                       ∃ w14 : World, ∃ n15 : Int, ∃ b16 : Bool, (Sem.run Tryz.prog (Instr.lookup 45 (Value.map (some (Array.size (World.heap w7)))) (Value.string (ByteArray.extract x0 (Int.toNat n11) (Int.toNat (IntKind.wrap IntKind.i64 (n11 + 3))))) true) w12 = Result.ok (Value.tuple (Array.mk [Value.int IntKind.i64 n15, Value.bool b16])) w14 ∧
                        (((b16 = true →
                           (((decide (IntKind.wrap IntKind.i64 (n11 - n15) ≤ 32768) = true →
                              ∃ I17 : Int → World → Prop, ∃ I18 : Int → World → Nat, (I17 0 w14 ∧
                               ∀ n19 : Int,
                               ∀ w20 : World,
                               (I17 n19 w20 →
                                 (((decide (n19 < 258) = true →
                                    (((decide (IntKind.wrap IntKind.i64 (n11 + n19) < (↑(ByteArray.size x0) : Int)) = true →
                                       ((0 ≤ IntKind.wrap IntKind.i64 (n15 + n19) ∧
                                         IntKind.wrap IntKind.i64 (n15 + n19) < (↑(ByteArray.size x0) : Int)) ∧
                                        ((0 ≤ IntKind.wrap IntKind.i64 (n11 + n19) ∧
                                          IntKind.wrap IntKind.i64 (n11 + n19) < (↑(ByteArray.size x0) : Int)) ∧
                                         ∀ w21 : World,
                                         (Drew w20 w21 →
                                           ((((byteAt x0 (IntKind.wrap IntKind.i64 (n15 + n19)) == byteAt x0 (IntKind.wrap IntKind.i64 (n11 + n19))) = true →
                                              (I17 (IntKind.wrap IntKind.i64 (n19 + 1)) w21 ∧
                                               I18 (IntKind.wrap IntKind.i64 (n19 + 1)) w21 < I18 n19 w20))) ∧
                                            ((byteAt x0 (IntKind.wrap IntKind.i64 (n15 + n19)) == byteAt x0 (IntKind.wrap IntKind.i64 (n11 + n19))) = false →
                                              ((0 ≤ n11 ∧
                                                (n11 ≤ IntKind.wrap IntKind.i64 (n11 + 3) ∧
                                                 IntKind.wrap IntKind.i64 (n11 + 3) ≤ (↑(ByteArray.size x0) : Int))) ∧
                                               ∃ w22 : World, (Sem.run Tryz.prog (Instr.mapUpdate 45 (Value.map (some (Array.size (World.heap w7)))) (Value.string (ByteArray.extract x0 (Int.toNat n11) (Int.toNat (IntKind.wrap IntKind.i64 (n11 + 3))))) (Value.int IntKind.i64 n11)) w21 = Result.ok PUnit.unit w22 ∧
                                                I13 n19 (IntKind.wrap IntKind.i64 (n11 - n15)) w22))))))))) ∧
                                     (decide (IntKind.wrap IntKind.i64 (n11 + n19) < (↑(ByteArray.size x0) : Int)) = false →
                                       ∀ w23 : World,
                                       (Drew w20 w23 →
                                         ((0 ≤ n11 ∧
                                           (n11 ≤ IntKind.wrap IntKind.i64 (n11 + 3) ∧
                                            IntKind.wrap IntKind.i64 (n11 + 3) ≤ (↑(ByteArray.size x0) : Int))) ∧
                                          ∃ w24 : World, (Sem.run Tryz.prog (Instr.mapUpdate 45 (Value.map (some (Array.size (World.heap w7)))) (Value.string (ByteArray.extract x0 (Int.toNat n11) (Int.toNat (IntKind.wrap IntKind.i64 (n11 + 3))))) (Value.int IntKind.i64 n11)) w23 = Result.ok PUnit.unit w24 ∧
                                           I13 n19 (IntKind.wrap IntKind.i64 (n11 - n15)) w24))))))) ∧
                                  (decide (n19 < 258) = false →
                                    ∀ w25 : World,
                                    (Drew w20 w25 →
                                      ((0 ≤ n11 ∧
                                        (n11 ≤ IntKind.wrap IntKind.i64 (n11 + 3) ∧
                                         IntKind.wrap IntKind.i64 (n11 + 3) ≤ (↑(ByteArray.size x0) : Int))) ∧
                                       ∃ w26 : World, (Sem.run Tryz.prog (Instr.mapUpdate 45 (Value.map (some (Array.size (World.heap w7)))) (Value.string (ByteArray.extract x0 (Int.toNat n11) (Int.toNat (IntKind.wrap IntKind.i64 (n11 + 3))))) (Value.int IntKind.i64 n11)) w25 = Result.ok PUnit.unit w26 ∧
                                        I13 n19 (IntKind.wrap IntKind.i64 (n11 - n15)) w26))))))))) ∧
                            (decide (IntKind.wrap IntKind.i64 (n11 - n15) ≤ 32768) = false →
                              ((0 ≤ n11 ∧
                                (n11 ≤ IntKind.wrap IntKind.i64 (n11 + 3) ∧
                                 IntKind.wrap IntKind.i64 (n11 + 3) ≤ (↑(ByteArray.size x0) : Int))) ∧
                               ∃ w27 : World, (Sem.run Tryz.prog (Instr.mapUpdate 45 (Value.map (some (Array.size (World.heap w7)))) (Value.string (ByteArray.extract x0 (Int.toNat n11) (Int.toNat (IntKind.wrap IntKind.i64 (n11 + 3))))) (Value.int IntKind.i64 n11)) w14 = Result.ok PUnit.unit w27 ∧
                                I13 0 0 w27)))))) ∧
                         (b16 = false →
                           ((0 ≤ n11 ∧
                             (n11 ≤ IntKind.wrap IntKind.i64 (n11 + 3) ∧
                              IntKind.wrap IntKind.i64 (n11 + 3) ≤ (↑(ByteArray.size x0) : Int))) ∧
                            ∃ w28 : World, (Sem.run Tryz.prog (Instr.mapUpdate 45 (Value.map (some (Array.size (World.heap w7)))) (Value.string (ByteArray.extract x0 (Int.toNat n11) (Int.toNat (IntKind.wrap IntKind.i64 (n11 + 3))))) (Value.int IntKind.i64 n11)) w14 = Result.ok PUnit.unit w28 ∧
                             I13 0 0 w28)))))))) ∧
                    (decide (IntKind.wrap IntKind.i64 (n11 + 3) ≤ (↑(ByteArray.size x0) : Int)) = false →
                      I13 0 0 w12)) ∧
                   ∀ n29 : Int,
                   ∀ n30 : Int,
                   ∀ w31 : World,
                   (I13 n29 n30 w31 →
                     (((decide (n29 < 3) = true →
                        ((0 ≤ n11 ∧
                          n11 < (↑(ByteArray.size x0) : Int)) ∧
                         Calls Tryz.prog (64 : Nat) (Array.mk [Value.pointer p4, Value.int IntKind.i64 (IntKind.wrap IntKind.i64 (byteAt x0 n11))]) (w31) (fun e32 w33 =>
                           ∃ n34 : Int, ∃ n35 : Int, (e32 = Ending.returned (Value.tuple (Array.mk [Value.int IntKind.u32 n34, Value.int IntKind.i64 n35])) ∧
                            Calls Tryz.prog (65 : Nat) (Array.mk [Value.pointer (some (Addr.mk (Array.size (World.heap w)) 0 none)), Value.int IntKind.u32 n34, Value.int IntKind.i64 n35]) (w33) (fun e36 w37 =>
                              (e36 = Ending.returned (Value.tuple (Array.mk [])) ∧
                               (I9 (IntKind.wrap IntKind.i64 (n11 + 1)) w37 ∧
                                I10 (IntKind.wrap IntKind.i64 (n11 + 1)) w37 < I10 n11 w12)))))))) ∧
                      (decide (n29 < 3) = false →
                        Calls Tryz.prog (66 : Nat) (Array.mk [Value.int IntKind.i64 n29, Value.int IntKind.i64 28, Value.func (Fn.func 67) (Array.mk []) (Array.mk [])]) (w31) (fun e38 w39 =>
                          ∃ n40 : Int, ∃ n41 : Int, ∃ n42 : Int, (e38 = Ending.returned (Value.tuple (Array.mk [Value.int IntKind.i64 n40, Value.int IntKind.u32 n41, Value.int IntKind.i64 n42])) ∧
                           Calls Tryz.prog (64 : Nat) (Array.mk [Value.pointer p4, Value.int IntKind.i64 (IntKind.wrap IntKind.i64 (257 + n40))]) (w39) (fun e43 w44 =>
                             ∃ n45 : Int, ∃ n46 : Int, (e43 = Ending.returned (Value.tuple (Array.mk [Value.int IntKind.u32 n45, Value.int IntKind.i64 n46])) ∧
                              Calls Tryz.prog (65 : Nat) (Array.mk [Value.pointer (some (Addr.mk (Array.size (World.heap w)) 0 none)), Value.int IntKind.u32 n45, Value.int IntKind.i64 n46]) (w44) (fun e47 w48 =>
                                (e47 = Ending.returned (Value.tuple (Array.mk [])) ∧
                                 Calls Tryz.prog (63 : Nat) (Array.mk [Value.pointer (some (Addr.mk (Array.size (World.heap w)) 0 none)), Value.int IntKind.u32 n41, Value.int IntKind.i64 n42]) (w48) (fun e49 w50 =>
                                   (e49 = Ending.returned (Value.tuple (Array.mk [])) ∧
                                    Calls Tryz.prog (66 : Nat) (Array.mk [Value.int IntKind.i64 n30, Value.int IntKind.i64 29, Value.func (Fn.func 68) (Array.mk []) (Array.mk [])]) (w50) (fun e51 w52 =>
                                      ∃ n53 : Int, ∃ n54 : Int, ∃ n55 : Int, (e51 = Ending.returned (Value.tuple (Array.mk [Value.int IntKind.i64 n53, Value.int IntKind.u32 n54, Value.int IntKind.i64 n55])) ∧
                                       Calls Tryz.prog (64 : Nat) (Array.mk [Value.pointer p5, Value.int IntKind.i64 n53]) (w52) (fun e56 w57 =>
                                         ∃ n58 : Int, ∃ n59 : Int, (e56 = Ending.returned (Value.tuple (Array.mk [Value.int IntKind.u32 n58, Value.int IntKind.i64 n59])) ∧
                                          Calls Tryz.prog (65 : Nat) (Array.mk [Value.pointer (some (Addr.mk (Array.size (World.heap w)) 0 none)), Value.int IntKind.u32 n58, Value.int IntKind.i64 n59]) (w57) (fun e60 w61 =>
                                            (e60 = Ending.returned (Value.tuple (Array.mk [])) ∧
                                             Calls Tryz.prog (63 : Nat) (Array.mk [Value.pointer (some (Addr.mk (Array.size (World.heap w)) 0 none)), Value.int IntKind.u32 n54, Value.int IntKind.i64 n55]) (w61) (fun e62 w63 =>
                                               (e62 = Ending.returned (Value.tuple (Array.mk [])) ∧
                                                (I9 (IntKind.wrap IntKind.i64 (n11 + n29)) w63 ∧
                                                 I10 (IntKind.wrap IntKind.i64 (n11 + n29)) w63 < I10 n11 w12))))))))))))))))))))))) ∧
                (decide (n11 < (↑(ByteArray.size x0) : Int)) = false →
                  Calls Tryz.prog (64 : Nat) (Array.mk [Value.pointer p4, Value.int IntKind.i64 256]) (w12) (fun e64 w65 =>
                    ∃ n66 : Int, ∃ n67 : Int, (e64 = Ending.returned (Value.tuple (Array.mk [Value.int IntKind.u32 n66, Value.int IntKind.i64 n67])) ∧
                     Calls Tryz.prog (65 : Nat) (Array.mk [Value.pointer (some (Addr.mk (Array.size (World.heap w)) 0 none)), Value.int IntKind.u32 n66, Value.int IntKind.i64 n67]) (w65) (fun e68 w69 =>
                       (e68 = Ending.returned (Value.tuple (Array.mk [])) ∧
                        Calls Tryz.prog (69 : Nat) (Array.mk [Value.pointer (some (Addr.mk (Array.size (World.heap w)) 0 none))]) (w69) (fun e70 w71 =>
                          ∃ s72 : ByteArray, (e70 = Ending.returned (Value.string s72) ∧
                           Calls Tryz.prog (70 : Nat) (Array.mk [Value.string x0]) (w71) (fun e73 w74 =>
                             ∃ s75 : ByteArray, (e73 = Ending.returned (Value.string s75) ∧
                              (((decide ((↑(ByteArray.size s72) : Int) < (↑(ByteArray.size s75) : Int)) = true →
                                 R (Value.string s72) w74)) ∧
                               (decide ((↑(ByteArray.size s72) : Int) < (↑(ByteArray.size s75) : Int)) = false →
                                 Calls Tryz.prog (70 : Nat) (Array.mk [Value.string x0]) (w74) (fun e76 w77 =>
                                   ∃ s78 : ByteArray, (e76 = Ending.returned (Value.string s78) ∧
                                    R (Value.string s78) w77))))))))))))))))))))))
theorem vc_inflate_Deflate_ok {x0 : ByteArray} {w : World} {R : Value → World → Prop} {R' : Ending → World → Prop} (h : vc_inflate_Deflate x0 w R) (hR : ∀ v w', R v w' → R' (.returned v) w') :
    Calls Tryz.prog 37 #[.string x0] w R' :=
  calls_of_body (vs := [(.string x0, false)]) (ty := ty) (ann := ⟨[(15, [(8, .int .i64), (9, .int .i64)])], [(6, [(7, .int .i64)]), (11, [(8, .int .i64)])], [(11, .quiet)], []⟩) (c := Tryz.f37.body.getD .skip) (by kernel_rfl) Tryz.func37 (by kernel_rfl) (by kernel_rfl) (Eq.mp (by kernel_rfl) h) hR
end Go.Proofs.YtcnpekohkbjnnaaGreatDoor

/- A stream of stored blocks: 'Stored' of the program. Condition: the text is no longer than a slice may be. -/
set_option linter.unusedVariables false
namespace SumM
/-- A stored block's first bytes. -/
def shead (f n : Nat) : List UInt8 := [UInt8.ofNat f] ++ (littleB 2 n ++ littleB 2 (65535 - n))
/-- A stream of stored blocks. -/
def storedS (s : List UInt8) : List UInt8 :=
  if h : s.length ≤ 65535 then shead 1 s.length ++ s else shead 0 65535 ++ s.take 65535 ++ storedS (s.drop 65535)
termination_by s.length
decreasing_by simp; omega
theorem storedS_last {s : List UInt8} (h : s.length ≤ 65535) : storedS s = shead 1 s.length ++ s := by rw [storedS, dif_pos h]
theorem storedS_more {s : List UInt8} (h : ¬ s.length ≤ 65535) : storedS s = shead 0 65535 ++ s.take 65535 ++ storedS (s.drop 65535) := by rw [storedS, dif_neg h]
theorem shead_length (f n : Nat) : (shead f n).length = 5 := by simp [shead, littleB_length]
theorem storedS_len : ∀ (n : Nat) (s : List UInt8), s.length = n → (storedS s).length ≤ 2 * n + 5 := fun n => by
  induction n using Nat.strongRecOn with
  | ind n ih =>
    intro s hs
    by_cases h : s.length ≤ 65535
    · rw [storedS_last h, List.length_append, shead_length]; omega
    · have := ih (n - 65535) (by omega) (s.drop 65535) (by rw [List.length_drop]; omega)
      rw [storedS_more h, List.length_append, List.length_append, shead_length, List.length_take]
      omega
end SumM
namespace Go.Proofs.YtcnpekohkbjnnaaGreatDoor
open Go Vc BitsM SumM Go.Proofs

theorem fill8_head (l : List UInt8) (f : Nat) (h : f ≤ 1) : fill8 (sbits l ++ lowB 3 f) = sbits (l ++ [UInt8.ofNat f]) := by
  unfold fill8
  rw [List.length_append, sbits_length, lowB_length, show 8 * ((8 * l.length + 3 + 7) / 8) - (8 * l.length + 3) = 5 by omega, sbits_append, List.append_assoc]
  congr 1
  rcases (show f = 0 ∨ f = 1 by omega) with rfl | rfl <;> rfl
/-- 'Stored'. -/
theorem stored5_spec (s : ByteArray) (hs : s.size ≤ 100000000) (w : World) :
    Calls Tryz.prog F_inflate_Stored #[.string s] w fun e w' => e = .returned (.string ⟨(storedS s.data.toList).toArray⟩) ∧ Fr (fun _ => False) w w' := by
  refine vc_inflate_Stored_ok (R := fun v w' => v = .string ⟨(storedS s.data.toList).toArray⟩ ∧ Fr (fun _ => False) w w') ?_ (fun v w' h => ⟨by rw [h.1], h.2⟩)
  intro w1 h1
  have hf1 : Fr (fun _ => False) w w1 := h1 ▸ Fr.alloc _ _ _
  have hw1 : Wrt w1 w.heap.size ⟨none, 0, 0⟩ (sbits []) := Wrt.zero (by rw [h1]; exact alloc_new _ _)
  have far : ∀ {w1 w2 : World} {sl : Sl} {l : List Bool}, Fr (fun _ => False) w w1 → Wrt w1 w.heap.size sl l → Fr (WX w.heap.size sl) w1 w2 → Fr (fun _ => False) w w2 := fun h1 hx h2 => h1.trans h2 fun k hk hh => by
    rcases hh with hh | ⟨y, hy, e⟩
    · omega
    · have := (hx.1.own.blk hy).1; omega
  refine ⟨fun t w' => ∃ sl done, Fr (fun _ => False) w w' ∧ Wrt w' w.heap.size sl (sbits done) ∧ done ++ storedS t.data.toList = storedS s.data.toList ∧ t.size ≤ s.size ∧ done.length ≤ 2 * (s.size - t.size), fun t _ => t.size, ⟨_, [], hf1, hw1, rfl, Nat.le_refl _, by simp⟩, ?_⟩
  rintro t w5 ⟨sl, done, hf5, hw5, hdone, hts, hdl⟩
  have htl : t.data.toList.length = t.size := by simp
  obtain ⟨n, hn⟩ : ∃ n, min t.size 65535 = n := ⟨_, rfl⟩
  have en : (if (65535 : Int) < (t.size : Int) then 65535 else (t.size : Int)) = ((n : Nat) : Int) := by split <;> omega
  rw [en]
  obtain ⟨f, hfn⟩ : ∃ f : Nat, f ≤ 1 ∧ (f = 1 ↔ n = t.size) := by
    by_cases h : n = t.size
    · exact ⟨1, by omega, by omega⟩
    · exact ⟨0, by omega, by omega⟩
  refine ⟨fun z w' => z = (f : Int) ∧ w' = w5, ⟨fun h => ⟨?_, rfl⟩, fun h => ⟨?_, rfl⟩⟩, ?_⟩
  · have := eq_of_beq h
    omega
  · have h : ¬ ((n : Int) = (t.size : Int)) := by simpa using h
    omega
  rintro z w8 ⟨rfl, hw⟩
  replace hw := hw.symm
  subst hw
  refine (wbits_spec hw5 (x := f) (n := 3) (by omega) (by omega) (by rw [sbits_length]; omega)).mono ?_
  rintro e w10 ⟨rfl, sl10, hw10, hf10, hs10⟩
  have hf10' := far hf5 hw5 hf10
  refine ⟨rfl, fun w11 d11 => ⟨fun w' => True, trivial, ⟨by omega, by omega⟩, ?_⟩⟩
  have hx : IntKind.i64.wrap (((BitVec.ofInt 64 (n : Int) ^^^ BitVec.ofInt 64 65535).toNat : Nat) : Int) = ((65535 - n : Nat) : Int) := by
    have := xor_nat 64 n 65535 (by omega) (by decide)
    rw [show ((65535 : Nat) : Int) = 65535 from rfl, xor_ones n (by omega)] at this
    rw [this, wrap_i64 (by omega) (by omega)]
  rw [hx, wrap_u64 (x := ((n : Nat) : Int)) (by omega) (by omega), wrap_u64 (x := ((65535 - n : Nat) : Int)) (by omega) (by omega), Int.toNat_natCast]
  have hw11 : Wrt w11 w.heap.size sl10 (sbits done ++ lowB 3 f) := hw10.keep (.drew (fun _ => False) d11) (by simp) (by simp)
  have hf11 := hf10'.trans' (.drew _ d11)
  refine (littleS_spec n 2 (by omega) (by decide) w11).mono ?_
  rintro e w14 ⟨rfl, hf14⟩
  refine ⟨_, rfl, trivial, (littleS_spec (65535 - n) 2 (by omega) (by decide) w14).mono ?_⟩
  rintro e w17 ⟨rfl, hf17⟩
  have hw17 := (hw11.keep hf14 (by simp) (by simp)).keep hf17 (by simp) (by simp)
  have hf17' := (hf11.trans' hf14).trans' hf17
  have h2a : ByteArray.size ⟨(littleB 2 n).toArray⟩ = 2 := by simp [ByteArray.size, littleB_length]
  have h2b : ByteArray.size ⟨(littleB 2 (65535 - n)).toArray⟩ = 2 := by simp [ByteArray.size, littleB_length]
  have hxe : (t.extract 0 n).size = n := by simp; omega
  have hsa : ∀ a b : ByteArray, (a ++ b).size = a.size + b.size := fun a b => by simp
  have htx : ((⟨(littleB 2 n).toArray⟩ : ByteArray) ++ ⟨(littleB 2 (65535 - n)).toArray⟩ ++ t.extract 0 n).data.toList = littleB 2 n ++ littleB 2 (65535 - n) ++ t.data.toList.take n := by
    simp only [ByteArray.data_append, Array.toList_append, extract_list, List.drop_zero, Nat.sub_zero]
  refine ⟨_, rfl, trivial, by rw [h2a, h2b]; omega, by rw [hsa, h2a, h2b, hxe]; omega, ?_⟩
  refine (wbytes_spec hw17 _ (by rw [hsa, hsa, h2a, h2b, hxe, List.length_append, sbits_length, lowB_length]; omega)).mono ?_
  rintro e w20 ⟨rfl, sl20, hw20, hf20, hs20⟩
  have hf20' := far hf17' hw17 hf20
  have hdone2 : fill8 (sbits done ++ lowB 3 f) ++ sbits ((⟨(littleB 2 n).toArray⟩ : ByteArray) ++ ⟨(littleB 2 (65535 - n)).toArray⟩ ++ t.extract 0 n).data.toList = sbits (done ++ shead f n ++ t.data.toList.take n) := by
    rw [htx, fill8_head _ _ hfn.1, ← sbits_append]
    congr 1
    simp [shead]
  rw [hdone2] at hw20
  refine ⟨rfl, ⟨by omega, by omega⟩, fun h1 => ?_, fun hn1 => ?_⟩
  · have h1 : f = 1 := by have := eq_of_beq h1; omega
    have hnt := hfn.2.1 h1
    refine (wtext_spec hw20).mono ?_
    rintro e w22 ⟨rfl, hf22⟩
    refine ⟨_, rfl, ?_, hf20'.trans' hf22⟩
    rw [textOf_sbits, ← hdone, storedS_last (by omega), h1, htl, hnt, List.take_of_length_le (by omega), List.append_assoc]
  · have hn1 : f ≠ 1 := fun hh => by rw [hh] at hn1; simp at hn1
    have hnt : n ≠ t.size := fun hh => hn1 (hfn.2.2 hh)
    have hn5 : n = 65535 := by omega
    have hf0 : f = 0 := by omega
    subst hn5
    subst hf0
    have hex : (t.extract 65535 t.size).data.toList = t.data.toList.drop 65535 := by rw [extract_list, List.take_of_length_le (by simp)]
    have hes : (t.extract 65535 t.size).size = t.size - 65535 := by simp
    refine ⟨⟨sl20, done ++ shead 0 65535 ++ t.data.toList.take 65535, hf20', hw20, ?_, by omega, ?_⟩, by dsimp only; omega⟩
    · rw [hex, ← hdone, storedS_more (s := t.data.toList) (by omega)]
      simp only [List.append_assoc]
    · rw [List.length_append, List.length_append, shead_length, List.length_take, hes]; omega
end Go.Proofs.YtcnpekohkbjnnaaGreatDoor

/- What Code of a table of codes does, and what law 4 takes of a list. -/
set_option linter.unusedVariables false
namespace Go.Proofs.YtcnpekohkbjnnaaGreatDoor
open Go Vc BitsM HuffM Go.Proofs

theorem hcode_spec {w : World} {lo hi b : Nat} {ls : List Nat} (h : Tab w lo hi b ls) (x : Int) :
    Calls Tryz.prog F_huff_Table_Code #[.pointer (some ⟨b, 0, none⟩), .int .i64 x] w fun e w' =>
      e = .returned (.tuple #[.int .u32 (((cd ls x).1 : Nat) : Int), .int .i64 (((cd ls x).2 : Nat) : Int)]) ∧ w' = w := by
  obtain ⟨l1, l2, ht, hb, hh⟩ := h.at_
  have hfits := h.fits
  have hls := h.small
  refine vc_huff_Table_Code_ok (R := fun v w' => v = .tuple #[.int .u32 (((cd ls x).1 : Nat) : Int), .int .i64 (((cd ls x).2 : Nat) : Int)] ∧ w' = w) ?_ (fun v w' h => ⟨by rw [h.1], h.2⟩)
  have ho1 := ht.o1
  rw [iv_ofNat] at ho1
  have hlen1 : l1.len = ls.length := by rw [ho1.len, List.length_map]
  have none_ : ¬ (0 ≤ x ∧ ls.getD x.toNat 0 ≠ 0) → cd ls x = (0, 0) := fun h => if_neg h
  refine ⟨fun hlt => ?_, fun hge => ⟨l1, ht.c0, fun hgt => ?_, fun hle => ⟨l1, ht.c0, ?_⟩⟩⟩
  · have hlt := of_decide_eq_true hlt
    rw [none_ (by omega)]; exact ⟨rfl, rfl⟩
  · have hge := of_decide_eq_false hge
    have hgt := of_decide_eq_true hgt
    rw [none_ (fun h => h.2 (by rw [List.getD_eq_getElem?_getD, List.getElem?_eq_none (by omega)]; rfl))]; exact ⟨rfl, rfl⟩
  have hge := of_decide_eq_false hge
  have hle := of_decide_eq_false hle
  obtain ⟨q, rfl⟩ := Int.eq_ofNat_of_zero_le (show 0 ≤ x by omega)
  have hq : q < ls.length := by omega
  have hgq : ls[q]? = some (ls.getD q 0) := by rw [List.getD_eq_getElem?_getD, List.getElem?_eq_getElem hq]; rfl
  obtain ⟨y, hy, hcy⟩ := ho1.reads q _ (nv_get hgq)
  refine ⟨⟨by omega, by omega⟩, y, hy, _, by rw [Int.toNat_natCast, Nat.mul_one]; exact hcy, fun h0 => ?_, fun h0 => ?_⟩
  · have h0 : ls.getD q 0 = 0 := by simpa using h0
    rw [none_ (fun h => h.2 (by rw [Int.toNat_natCast]; exact h0))]; exact ⟨rfl, rfl⟩
  have h0 : ls.getD q 0 ≠ 0 := by simpa using h0
  have hcd : cd ls (q : Int) = (code ls q, ls.getD q 0) := by unfold cd; rw [if_pos ⟨by omega, by rw [Int.toNat_natCast]; exact h0⟩, Int.toNat_natCast]
  rw [hcd]
  generalize hN : ls.getD q 0 = N at hgq h0
  have hN15 := hfits.mem hgq
  have hcode : code ls q = 2 * fin ls (N - 1) + (ls.take q).count N := by rw [code, getD_of hgq]
  have ho2 := ht.o2
  have hlen2 : l2.len = (sorted ls 15).length := by rw [ho2.len, List.length_map]
  have hfle : ∀ {m : Nat}, m ≤ 15 → fin ls m ≤ 32768 := fun {m} hm => by
    have := hfits.le hm
    have : 2 ^ m ≤ 2 ^ 15 := Nat.pow_le_pow_right (by decide) hm
    omega
  have hsl := sorted_le ls
  refine ⟨fun cde at_ n w' => w' = w ∧ ∃ m : Nat, m < N ∧ n = (m : Int) + 1 ∧ cde = ((fin ls m : Nat) : Int) ∧ at_ = (((sorted ls m).length : Nat) : Int), fun _ _ n _ => (17 - n).toNat,
    ⟨rfl, 0, by omega, rfl, rfl, rfl⟩, ?_⟩
  rintro cde at_ n w10 ⟨rfl, m, hm, rfl, rfl, rfl⟩
  refine ⟨fun _ => ?_, fun hgt => absurd (of_decide_eq_false hgt) (by omega)⟩
  have htn : ((m : Int) + 1).toNat = m + 1 := by omega
  have hfs : fin ls (m + 1) = 2 * fin ls m + ls.count (m + 1) := rfl
  have hss : (sorted ls (m + 1)).length = (sorted ls m).length + ls.count (m + 1) := by rw [sorted, List.length_append, syms_length]
  have hf1 := hfle (m := m + 1) (by omega)
  have hf0 := hfle (m := m) (by omega)
  have hs1 := hsl (m + 1)
  have e1 : IntKind.u32.wrap (((fin ls m : Nat) : Int) * 2 ^ min (Int.toNat 1) 32) = ((2 * fin ls m : Nat) : Int) := by
    have : (2 : Int) ^ min (Int.toNat 1) 32 = 2 := rfl
    rw [this, wrap_u32 (by omega) (by omega)]; omega
  rw [htn, e1]
  refine ⟨by decide, ⟨by omega, by omega⟩, _, ht.cnt (by omega), ?_⟩
  refine ⟨fun cde at_ j w' => w' = w10 ∧ ∃ k : Nat, k ≤ ls.count (m + 1) ∧ j = (k : Int) ∧ cde = ((2 * fin ls m + k : Nat) : Int) ∧ at_ = (((sorted ls m).length + k : Nat) : Int) ∧ (m + 1 = N → k ≤ (ls.take q).count N), fun _ _ j _ => (((ls.count (m + 1) : Nat) : Int) - j).toNat,
    ⟨rfl, 0, by omega, rfl, rfl, rfl, fun _ => Nat.zero_le _⟩, ?_⟩
  rintro cde at_ j w17 ⟨rfl, k, hk, rfl, rfl, rfl, hkN⟩
  refine ⟨fun hlt => ?_, fun hge => ?_⟩
  · have hlt := of_decide_eq_true hlt
    have hk' : k < (syms ls (m + 1)).length := by rw [syms_length]; omega
    have hsy := List.getElem?_eq_getElem hk'
    generalize (syms ls (m + 1))[k] = s at hsy
    obtain ⟨hs1', hs2⟩ := syms_get hsy
    have hso := sorted_get (by omega) hsy (15 - (m + 1))
    rw [show m + 1 + (15 - (m + 1)) = 15 by omega, Nat.add_sub_cancel] at hso
    obtain ⟨z, hz, hcz⟩ := ho2.reads _ _ (nv_get hso)
    have hsz := hsl 15
    have hso15 := (List.getElem?_eq_some_iff.1 hso).1
    refine ⟨l2, ht.c17, ⟨by omega, by omega⟩, z, hz, _, by rw [Int.toNat_natCast, Nat.mul_one]; exact hcz, fun heq => ?_, fun hne => ?_⟩
    · have heq : s = q := by have : (s : Int) = (q : Int) := by simpa using heq
                             omega
      subst heq
      have : m + 1 = N := by rw [hgq] at hs1'; exact (Option.some.inj hs1').symm
      subst this
      rw [hs2] at hcode
      rw [hcode, Nat.add_sub_cancel]
      exact ⟨rfl, rfl⟩
    · have hne : ¬ s = q := fun h => by subst h; simp at hne
      have e1 : IntKind.u32.wrap (((2 * fin ls m + k : Nat) : Int) + 1) = ((2 * fin ls m + (k + 1) : Nat) : Int) := by rw [wrap_u32 (by omega) (by omega)]; omega
      have e2 : IntKind.i64.wrap ((((sorted ls m).length + k : Nat) : Int) + 1) = (((sorted ls m).length + (k + 1) : Nat) : Int) := by rw [wrap_i64 (by omega) (by omega)]; omega
      have e3 : IntKind.i64.wrap ((k : Int) + 1) = ((k + 1 : Nat) : Int) := by rw [wrap_i64 (by omega) (by omega)]; omega
      rw [e1, e2, e3]
      refine ⟨⟨rfl, k + 1, by omega, rfl, rfl, rfl, fun hmN => ?_⟩, by dsimp only; omega⟩
      have h1 := hkN hmN
      rcases Nat.lt_or_ge k ((ls.take q).count N) with h2 | h2
      · exact h2
      · exfalso
        subst hmN
        have h3 : (ls.take s).count (m + 1) = (ls.take q).count (m + 1) := by omega
        rcases Nat.lt_trichotomy s q with h | h | h
        · have := count_take_step hs1' h; omega
        · exact hne h
        · have := count_take_step hgq h; omega
  · have hge := of_decide_eq_false hge
    have : k = ls.count (m + 1) := by omega
    subst this
    have hmN : m + 1 ≠ N := fun h => by
      have h1 := hkN h
      have h2 := count_take_lt hgq
      subst h; omega
    have e1 : IntKind.i64.wrap ((m : Int) + 1 + 1) = ((m + 1 : Nat) : Int) + 1 := by rw [wrap_i64 (by omega) (by omega)]; omega
    rw [e1]
    exact ⟨⟨rfl, m + 1, by omega, rfl, by rw [hfs], by rw [hss]⟩, by dsimp only; omega⟩
end Go.Proofs.YtcnpekohkbjnnaaGreatDoor

/- Streams that are written say their text. Condition: the text is no longer than a slice may be. -/
set_option linter.unusedVariables false
namespace DefM
open BitsM HuffM InfM SumM Go.Proofs.YtcnpekohkbjnnaaGreatDoor

theorem sym_code {ls : List Nat} (hf : Fits ls) {s n : Nat} (h : ls[s]? = some n) (h1 : 1 ≤ n) (F rest : List Bool) : sym ls (F ++ (cbits ls s ++ rest)) F.length = .ok (s, F.length + n) := by
  refine sym_at ?_
  rw [List.drop_left]
  exact (cbits_prefix hf h h1 _).1 (List.prefix_append ..)
theorem take_low (F rest : List Bool) (n x : Nat) : take (F ++ (lowB n x ++ rest)) n F.length = .ok (x % 2 ^ n, F.length + n) := by
  have h1 : (lowB n x).length = n := lowB_length n x
  unfold take
  rw [if_pos (by simp only [List.length_append, h1]; omega), List.drop_left]
  have : (lowB n x ++ rest).take n = lowB n x := by
    have := List.take_left' (l₁ := lowB n x) (l₂ := rest) h1
    exact this
  rw [this, num_lowB]
theorem copy_take {s : List UInt8} {i back : Nat} (hb : 1 ≤ back) (hi : back ≤ i) (A : List UInt8) : ∀ n, i + n ≤ s.length → (∀ j, j < n → s[i - back + j]? = s[i + j]?) → copy back n (A ++ s.take i) = A ++ s.take (i + n)
  | 0, _, _ => rfl
  | n + 1, hl, hj => by
    rw [copy_succ, copy_take hb hi A n (by omega) fun j h => hj j (by omega)]
    have hlt : i + n < s.length := by omega
    rw [show i + (n + 1) = i + n + 1 by omega, List.take_succ_eq_append_getElem hlt, ← List.append_assoc]
    congr 2
    have h1 : (A ++ s.take (i + n)).length - back = A.length + (i - back + n) := by rw [List.length_append, List.length_take]; omega
    rw [h1, List.getD_eq_getElem?_getD, List.getElem?_append_right (by omega), Nat.add_sub_cancel_left, List.getElem?_take_of_lt (by omega), hj n (by omega), List.getElem?_eq_getElem hlt]
    rfl
/-- These bits are symbols, by the fixed codes, that say the first i bytes. -/
def Enc (s : List UInt8) (i : Nat) (L : List Bool) : Prop := ∀ (F : List Bool) (A : List UInt8) (most : Nat) (rest : List Bool), A.length ≤ most → ∃ k, k ≤ L.length ∧
  ∀ f, packed fixedLit fixedDist most (F ++ (L ++ rest)) (f + k) F.length A = if A.length + i ≤ most then packed fixedLit fixedDist most (F ++ (L ++ rest)) f (F.length + L.length) (A ++ s.take i) else .error 2
theorem enc_zero (s : List UInt8) : Enc s 0 [] := fun F A most rest hA => ⟨0, Nat.le_refl _, fun f => by
  rw [if_pos (by omega), List.take_zero, List.append_nil]; rfl⟩
theorem lit_fits : Fits fixedLit := chk_fits fixedLit_chk
theorem dist_fits : Fits fixedDist := chk_fits fixedDist_chk
theorem lit_get {s : Nat} (h : s < 288) : fixedLit[s]? = some (fixN s) := by
  rw [fixedLit_eq, List.getElem?_map, List.getElem?_range h]; rfl
theorem dist_get {s : Nat} (h : s < 32) : fixedDist[s]? = some 5 := by
  rw [fixedDist_eq, List.getElem?_map, List.getElem?_range h]; rfl
theorem fixN_le (s : Nat) : 7 ≤ fixN s ∧ fixN s ≤ 9 := by unfold fixN; split <;> (try split) <;> omega
theorem lit_len {s : Nat} (h : s < 288) : (cbits fixedLit s).length = fixN s := by rw [cbits_length, getD_of (lit_get h)]
theorem dist_len {s : Nat} (h : s < 32) : (cbits fixedDist s).length = 5 := by rw [cbits_length, getD_of (dist_get h)]
/-- One more step, whatever it is. -/
theorem enc_step {s : List UInt8} {i i2 : Nat} {L X : List Bool} (h : Enc s i L) (hi : i ≤ i2) (hs : i ≤ s.length) (hX : 1 ≤ X.length)
    (step : ∀ (G : List Bool) (A : List UInt8) (most f : Nat) (rest : List Bool), A.length + i ≤ most → packed fixedLit fixedDist most (G ++ (X ++ rest)) (f + 1) G.length (A ++ s.take i) = if A.length + i2 ≤ most then packed fixedLit fixedDist most (G ++ (X ++ rest)) f (G.length + X.length) (A ++ s.take i2) else .error 2) : Enc s i2 (L ++ X) := fun F A most rest hA => by
  obtain ⟨k, hk, hp⟩ := h F A most (X ++ rest) hA
  refine ⟨k + 1, by rw [List.length_append]; omega, fun f => ?_⟩
  rw [List.append_assoc L X rest, show f + (k + 1) = f + 1 + k by omega, hp]
  by_cases hle : A.length + i ≤ most
  · rw [if_pos hle]
    have := step (F ++ L) A most f rest hle
    rw [List.append_assoc F L, List.length_append] at this
    rw [this, List.length_append, Nat.add_assoc]
  · rw [if_neg hle, if_neg (by omega)]
theorem enc_lit {s : List UInt8} {i : Nat} {L : List Bool} (h : Enc s i L) {c : UInt8} (hc : s[i]? = some c) : Enc s (i + 1) (L ++ cbits fixedLit c.toNat) := by
  obtain ⟨hlt, hc'⟩ := List.getElem?_eq_some_iff.1 hc
  have hb := c.toNat_lt
  refine enc_step h (by omega) (by omega) (by rw [lit_len (by omega)]; have := fixN_le c.toNat; omega) fun G A most f rest hle => ?_
  rw [packed, sym_code lit_fits (lit_get (by omega)) (by have := fixN_le c.toNat; omega)]
  dsimp only
  rw [if_neg (by omega), if_pos (by omega), UInt8.ofNat_toNat, lit_len (by omega)]
  have hl : (A ++ s.take i).length = A.length + i := by rw [List.length_append, List.length_take]; omega
  rw [hl]
  by_cases hm : A.length + i = most
  · rw [if_pos hm, if_neg (by omega)]
  · rw [if_neg hm, if_pos (by omega), List.append_assoc, List.take_succ_eq_append_getElem hlt, hc']
/-- The bits of a repeat. -/
def repB (a more d far : Nat) : List Bool := cbits fixedLit (257 + a) ++ (lowB (lenBase a).2 more ++ (cbits fixedDist d ++ lowB (distBase d).2 far))
theorem repB_length {a more d far : Nat} (ha : a ≤ 28) (hd : d ≤ 29) : (repB a more d far).length = fixN (257 + a) + (lenBase a).2 + 5 + (distBase d).2 := by
  unfold repB
  simp only [List.length_append, lit_len (show 257 + a < 288 by omega), dist_len (show d < 32 by omega), lowB_length]
  omega
theorem enc_rep {s : List UInt8} {i : Nat} {L : List Bool} (h : Enc s i L) {a more d far : Nat} (ha : a ≤ 28) (hd : d ≤ 29) (hm : more < 2 ^ (lenBase a).2) (hfar : far < 2 ^ (distBase d).2)
    (hback : (distBase d).1 + far ≤ i) (hn : i + ((lenBase a).1 + more) ≤ s.length) (hj : ∀ j, j < (lenBase a).1 + more → s[i - ((distBase d).1 + far) + j]? = s[i + j]?) : Enc s (i + ((lenBase a).1 + more)) (L ++ repB a more d far) := by
  have hb1 := (distBase_le d hd).1
  refine enc_step h (by omega) (by omega) (by rw [repB_length ha hd]; omega) fun G A most f rest hle => ?_
  have hG1 : G ++ (repB a more d far ++ rest) = G ++ (cbits fixedLit (257 + a) ++ (lowB (lenBase a).2 more ++ (cbits fixedDist d ++ (lowB (distBase d).2 far ++ rest)))) := by
    unfold repB; simp only [List.append_assoc]
  have f1 := sym_code lit_fits (lit_get (show 257 + a < 288 by omega)) (by have := fixN_le (257 + a); omega) G (lowB (lenBase a).2 more ++ (cbits fixedDist d ++ (lowB (distBase d).2 far ++ rest)))
  have f2 := take_low (G ++ cbits fixedLit (257 + a)) (cbits fixedDist d ++ (lowB (distBase d).2 far ++ rest)) (lenBase a).2 more
  have f3 := sym_code dist_fits (dist_get (show d < 32 by omega)) (by omega) (G ++ cbits fixedLit (257 + a) ++ lowB (lenBase a).2 more) (lowB (distBase d).2 far ++ rest)
  have f4 := take_low (G ++ cbits fixedLit (257 + a) ++ lowB (lenBase a).2 more ++ cbits fixedDist d) rest (distBase d).2 far
  simp only [List.append_assoc, List.length_append, lit_len (show 257 + a < 288 by omega), dist_len (show d < 32 by omega), lowB_length, Nat.mod_eq_of_lt hm, Nat.mod_eq_of_lt hfar] at f1 f2 f3 f4
  rw [hG1, repB_length ha hd]
  generalize G ++ (cbits fixedLit (257 + a) ++ (lowB (lenBase a).2 more ++ (cbits fixedDist d ++ (lowB (distBase d).2 far ++ rest)))) = B at f1 f2 f3 f4 ⊢
  rw [packed, f1]
  dsimp only
  rw [if_neg (by omega), if_neg (by omega), rep, if_neg (by omega), show 257 + a - 257 = a by omega, f2]
  dsimp only
  rw [show G.length + (fixN (257 + a)) + (lenBase a).2 = G.length + (fixN (257 + a) + (lenBase a).2) by omega] at *
  rw [f3]
  dsimp only
  rw [if_neg (by omega)]
  rw [show G.length + (fixN (257 + a) + (lenBase a).2) + 5 = G.length + (fixN (257 + a) + ((lenBase a).2 + 5)) by omega] at *
  rw [f4]
  dsimp only
  have hl : (A ++ s.take i).length = A.length + i := by rw [List.length_append, List.length_take]; omega
  rw [hl, if_neg (by omega), copy_take (by omega) hback A _ hn hj]
  by_cases hmm : most < A.length + i + ((lenBase a).1 + more)
  · rw [if_pos hmm, if_neg (by omega)]
  · rw [if_neg hmm, if_pos (by omega)]
    dsimp only
    congr 1
    omega
/-- This stream says this text, at whatever place and behind whatever came out before. -/
def StreamAt (t s : List UInt8) (p : Nat) : Prop := ∀ (F : List Bool) (A : List UInt8) (most : Nat) (back : List UInt8) (f : Nat), F.length % 8 = 0 → A.length ≤ most → t.length < f →
  blocks most (F ++ sbits (t ++ back)) f F.length A = if A.length + s.length ≤ most then .ok (A ++ s, F.length + p) else .error 2
def Stream (t s : List UInt8) : Prop := ∃ p, (p + 7) / 8 = t.length ∧ StreamAt t s p
theorem stream_packed {s : List UInt8} {L : List Bool} (h : Enc s s.length L) : Stream (textOf (lowB 3 3 ++ (L ++ cbits fixedLit 256))) s := by
  refine ⟨3 + (L.length + 7), ?_, fun F A most back f hF hA hf => ?_⟩
  · rw [textOf_length, List.length_append, List.length_append, lowB_length, lit_len (by omega)]
    rfl
  obtain ⟨g, rfl⟩ : ∃ g, f = g + 1 := ⟨f - 1, by omega⟩
  obtain ⟨Z, hZ⟩ : ∃ Z, sbits (textOf (lowB 3 3 ++ (L ++ cbits fixedLit 256)) ++ back) = lowB 3 3 ++ (L ++ (cbits fixedLit 256 ++ Z)) := by
    refine ⟨List.replicate (8 * (((lowB 3 3 ++ (L ++ cbits fixedLit 256)).length + 7) / 8) - (lowB 3 3 ++ (L ++ cbits fixedLit 256)).length) false ++ sbits back, ?_⟩
    rw [sbits_append, sbits_textOf]
    unfold fill8
    simp only [List.append_assoc]
  rw [hZ]
  have ht := take_low F (L ++ (cbits fixedLit 256 ++ Z)) 3 3
  have hs := sym_code lit_fits (lit_get (show 256 < 288 by omega)) (by have := fixN_le 256; omega) (F ++ (lowB 3 3 ++ L)) Z
  obtain ⟨k, hk, hp⟩ := h (F ++ lowB 3 3) A most (cbits fixedLit 256 ++ Z) hA
  have hBl : (F ++ (lowB 3 3 ++ (L ++ (cbits fixedLit 256 ++ Z)))).length = F.length + (3 + (L.length + (7 + Z.length))) := by
    simp only [List.length_append, lowB_length, lit_len (show 256 < 288 by omega)]; rfl
  simp only [List.append_assoc, List.length_append, lowB_length] at hs hp
  generalize F ++ (lowB 3 3 ++ (L ++ (cbits fixedLit 256 ++ Z))) = B at ht hs hp hBl ⊢
  rw [blocks, ht]
  dsimp only
  rw [block, if_neg (by decide), if_pos (by decide), hBl]
  obtain ⟨j, hj⟩ : ∃ j, F.length + (3 + (L.length + (7 + Z.length))) + 1 = j + 1 + k := ⟨F.length + (3 + (L.length + (7 + Z.length))) - k, by omega⟩
  rw [hj, hp]
  by_cases hm : A.length + s.length ≤ most
  · rw [if_pos hm, if_pos hm, packed, show F.length + 3 + L.length = F.length + (3 + L.length) by omega, hs]
    dsimp only
    rw [if_pos rfl]
    dsimp only
    rw [if_pos (by decide), List.take_length]
    congr 2
  · rw [if_neg hm, if_neg hm]
theorem num_little2 (n : Nat) (h : n < 65536) (rest : List UInt8) : num ((sbits (littleB 2 n ++ rest)).take 16) = n := by
  have hl : (sbits (littleB 2 n)).length = 16 := by rw [sbits_length, littleB_length]
  rw [sbits_append]
  have : (sbits (littleB 2 n) ++ sbits rest).take 16 = sbits (littleB 2 n) := List.take_left' hl
  rw [this, show littleB 2 n = [UInt8.ofNat n, UInt8.ofNat (n / 256)] by simp [littleB, List.range_succ]]
  simp only [sbits, List.append_nil, num_append, num_lowB, lowB_length]
  simp
  omega
theorem bytes_here (c rest : List UInt8) : bytesAt (sbits (c ++ rest)) c.length 0 = c := by
  rw [bytesAt_of, List.drop_zero]
  have := bytesOf_sbits [] 0 rfl (c ++ rest) c.length (by rw [List.length_append]; omega)
  rw [List.nil_append, Nat.zero_add] at this
  rw [this, List.take_left]
  rfl
theorem bytesAt_drop (B : List Bool) (n p : Nat) : bytesAt B n p = bytesAt (B.drop p) n 0 := by
  rw [bytesAt_of, bytesAt_of, List.drop_zero]
theorem stored_block {most : Nat} {F : List Bool} {A c rest : List UInt8} {fl f : Nat} (hF : F.length % 8 = 0) (hfl : fl ≤ 1) (hc : c.length ≤ 65535) :
    blocks most (F ++ sbits (shead fl c.length ++ (c ++ rest))) (f + 1) F.length A =
      if A.length + c.length ≤ most then (if fl = 1 then .ok (A ++ c, F.length + 8 * (5 + c.length)) else blocks most (F ++ sbits (shead fl c.length ++ (c ++ rest))) f (F.length + 8 * (5 + c.length)) (A ++ c)) else .error 2 := by
  have hsp : sbits (shead fl c.length ++ (c ++ rest)) = lowB 3 fl ++ (List.replicate 5 false ++ sbits (littleB 2 c.length ++ (littleB 2 (65535 - c.length) ++ (c ++ rest)))) := by
    have hb : sbits [UInt8.ofNat fl] = lowB 3 fl ++ List.replicate 5 false := by rcases (show fl = 0 ∨ fl = 1 by omega) with rfl | rfl <;> rfl
    unfold shead
    rw [List.append_assoc, sbits_append, hb, List.append_assoc, List.append_assoc]
  have ht := take_low F (List.replicate 5 false ++ sbits (littleB 2 c.length ++ (littleB 2 (65535 - c.length) ++ (c ++ rest)))) 3 fl
  rw [← hsp] at ht
  have hX : (F ++ (lowB 3 fl ++ List.replicate 5 false)).length = F.length + 8 := by simp [lowB_length]
  have hd : (F ++ sbits (shead fl c.length ++ (c ++ rest))).drop (F.length + 8) = sbits (littleB 2 c.length ++ (littleB 2 (65535 - c.length) ++ (c ++ rest))) := by
    rw [hsp, ← List.append_assoc (lowB 3 fl), ← List.append_assoc F, ← hX, List.drop_left]
  have hBl : (F ++ sbits (shead fl c.length ++ (c ++ rest))).length = F.length + 8 * (5 + c.length + rest.length) := by
    rw [List.length_append, sbits_length, List.length_append, shead_length, List.length_append]; omega
  have hd2 : (F ++ sbits (shead fl c.length ++ (c ++ rest))).drop (F.length + 8 + 16) = sbits (littleB 2 (65535 - c.length) ++ (c ++ rest)) := by
    rw [← List.drop_drop, hd, show 16 = 8 * 2 from rfl, ← sbits_drop, List.drop_left' (littleB_length 2 _)]
  have hd3 : (F ++ sbits (shead fl c.length ++ (c ++ rest))).drop (F.length + 8 + 32) = sbits (c ++ rest) := by
    rw [show F.length + 8 + 32 = F.length + 8 + 16 + 16 by omega, ← List.drop_drop, hd2, show 16 = 8 * 2 from rfl, ← sbits_drop, List.drop_left' (littleB_length 2 _)]
  have hn1 := num_little2 c.length (by omega) (littleB 2 (65535 - c.length) ++ (c ++ rest))
  have hn2 := num_little2 (65535 - c.length) (by omega) (c ++ rest)
  rw [← hd] at hn1
  rw [← hd2] at hn2
  have hby := bytesAt_drop (F ++ sbits (shead fl c.length ++ (c ++ rest))) c.length (F.length + 8 + 32)
  rw [hd3, bytes_here] at hby
  generalize F ++ sbits (shead fl c.length ++ (c ++ rest)) = B at ht hBl hn1 hn2 hby ⊢
  rw [blocks, ht]
  dsimp only
  have hfl8 : fl % 2 ^ 3 = fl := by omega
  rw [hfl8, block, if_pos (by omega), stored]
  dsimp only
  rw [show (F.length + 3 + 7) / 8 * 8 = F.length + 8 by omega, if_pos (by omega), hn1, hn2, if_neg (by omega), if_pos (by omega), hby]
  by_cases hm : A.length + c.length ≤ most
  · rw [if_neg (by omega), if_pos hm]
    dsimp only
    rw [show F.length + 8 + 32 + 8 * c.length = F.length + 8 * (5 + c.length) by omega]
    by_cases h1 : fl = 1
    · rw [if_pos (by omega), if_pos h1]
    · rw [if_neg (by omega), if_neg h1]
  · rw [if_pos (by omega), if_neg hm]
theorem stream_stored : ∀ (n : Nat) (s : List UInt8), s.length = n → StreamAt (storedS s) s (8 * (storedS s).length) := fun n => by
  induction n using Nat.strongRecOn with
  | ind n ih =>
    intro s hs F A most back f hF hA hf
    obtain ⟨g, rfl⟩ : ∃ g, f = g + 1 := ⟨f - 1, by omega⟩
    by_cases h : s.length ≤ 65535
    · rw [storedS_last h, List.append_assoc, stored_block hF (by decide) h, if_pos rfl, List.length_append, shead_length]
    · have hc : (s.take 65535).length = 65535 := by rw [List.length_take]; omega
      have hb := stored_block (most := most) (F := F) (A := A) (c := s.take 65535) (rest := storedS (s.drop 65535) ++ back) (fl := 0) (f := g) hF (by decide) (by omega)
      rw [hc, if_neg (show ¬ ((0 : Nat) = 1) by decide)] at hb
      have hst := ih (n - 65535) (by omega) (s.drop 65535) (by rw [List.length_drop]; omega)
      have hlen : (storedS s).length = 5 + 65535 + (storedS (s.drop 65535)).length := by
        rw [storedS_more h, List.length_append, List.length_append, shead_length, hc]
      rw [hlen] at hf ⊢
      rw [storedS_more h]
      rw [show shead 0 65535 ++ s.take 65535 ++ storedS (s.drop 65535) ++ back = shead 0 65535 ++ (s.take 65535 ++ (storedS (s.drop 65535) ++ back)) by simp only [List.append_assoc], hb]
      have hF2 : (F ++ sbits (shead 0 65535 ++ s.take 65535)).length = F.length + 8 * (5 + 65535) := by rw [List.length_append, sbits_length, List.length_append, shead_length, hc]
      have h2 := fun hm => hst (F ++ sbits (shead 0 65535 ++ s.take 65535)) (A ++ s.take 65535) most back g (by rw [hF2]; omega) hm (by omega)
      rw [hF2, List.append_assoc, ← sbits_append, List.append_assoc, List.length_append, hc, List.length_drop, List.append_assoc, List.take_append_drop] at h2
      by_cases hm : A.length + 65535 ≤ most
      · rw [if_pos hm, h2 hm]
        by_cases hm2 : A.length + s.length ≤ most
        · rw [if_pos (by omega), if_pos hm2]
          congr 2
          omega
        · rw [if_neg (by omega), if_neg hm2]
      · rw [if_neg hm, if_neg (by omega)]
end DefM
namespace Go.Proofs.YtcnpekohkbjnnaaGreatDoor
open Go Vc BitsM HuffM InfM SumM Go.Proofs

/-- The last symbol whose base is not above a number. -/
def SymOf (base : Nat → Nat × Nat) (top n a : Nat) : Prop := a ≤ top ∧ (base a).1 ≤ n ∧ (a = top ∨ n < (base (a + 1)).1)
open Classical in
noncomputable def symF (base : Nat → Nat × Nat) (top n : Nat) : Nat := if h : ∃ a, SymOf base top n a then h.choose else 0
theorem symOf_one {base : Nat → Nat × Nat} {top n a b : Nat} (mono : ∀ i j, i < j → j ≤ top → (base i).1 < (base j).1) (h : SymOf base top n a) (h' : SymOf base top n b) : a = b := by
  obtain ⟨h1, h2, h3⟩ := h
  obtain ⟨g1, g2, g3⟩ := h'
  rcases Nat.lt_trichotomy a b with hlt | rfl | hlt
  · rcases h3 with rfl | h3
    · omega
    · by_cases hab : a + 1 = b
      · rw [hab] at h3; omega
      · have := mono (a + 1) b (by omega) g1; omega
  · rfl
  · rcases g3 with rfl | g3
    · omega
    · by_cases hab : b + 1 = a
      · rw [hab] at g3; omega
      · have := mono (b + 1) a (by omega) h1; omega
theorem symF_eq {base : Nat → Nat × Nat} {top n a : Nat} (mono : ∀ i j, i < j → j ≤ top → (base i).1 < (base j).1) (h : SymOf base top n a) : symF base top n = a := by
  have hx : ∃ a, SymOf base top n a := ⟨a, h⟩
  unfold symF
  rw [dif_pos hx]
  exact symOf_one mono hx.choose_spec h
theorem len_mono : ∀ i j, i < j → j ≤ 28 → (lenBase i).1 < (lenBase j).1 := fun i j hi hj => by
  have : ∀ j, j ≤ 28 → ∀ i, i < j → (lenBase i).1 < (lenBase j).1 := by decide +kernel
  exact this j hj i hi
theorem dist_mono : ∀ i j, i < j → j ≤ 29 → (distBase i).1 < (distBase j).1 := fun i j hi hj => by
  have : ∀ j, j ≤ 29 → ∀ i, i < j → (distBase i).1 < (distBase j).1 := by decide +kernel
  exact this j hj i hi
/-- How many bytes are alike. -/
def alike (s : List UInt8) (a i : Nat) : Nat → Nat → Nat
  | 0, m => m
  | f + 1, m => if i + m < s.length ∧ s[a + m]? = s[i + m]? then alike s a i f (m + 1) else m
/-- What is found at a place: how many bytes, how far back, the entries behind. -/
def dfind (s : ByteArray) (i : Nat) (ents : List (ByteArray × Value)) : Nat × Nat × List (ByteArray × Value) :=
  if i + 3 ≤ s.size then
    match mlook ents (s.extract i (i + 3)) with
    | some (.int _ v) => if i - v.toNat ≤ 32768 then (alike s.data.toList v.toNat i 258 0, i - v.toNat, mupd ents (s.extract i (i + 3)) (.int .i64 (i : Int))) else (0, 0, mupd ents (s.extract i (i + 3)) (.int .i64 (i : Int)))
    | _ => (0, 0, mupd ents (s.extract i (i + 3)) (.int .i64 (i : Int)))
  else (0, 0, ents)
/-- One symbol, or one repeat, more. -/
noncomputable def dstep (s : ByteArray) (x : Nat × List Bool × List (ByteArray × Value)) : Nat × List Bool × List (ByteArray × Value) :=
  if (dfind s x.1 x.2.2).1 < 3 then (x.1 + 1, x.2.1 ++ cbits fixedLit (byt s x.1), (dfind s x.1 x.2.2).2.2)
  else (x.1 + (dfind s x.1 x.2.2).1, x.2.1 ++ DefM.repB (symF lenBase 28 (dfind s x.1 x.2.2).1) ((dfind s x.1 x.2.2).1 - (lenBase (symF lenBase 28 (dfind s x.1 x.2.2).1)).1) (symF distBase 29 (dfind s x.1 x.2.2).2.1) ((dfind s x.1 x.2.2).2.1 - (distBase (symF distBase 29 (dfind s x.1 x.2.2).2.1)).1), (dfind s x.1 x.2.2).2.2)
noncomputable def diter (s : ByteArray) : Nat → Nat × List Bool × List (ByteArray × Value)
  | 0 => (0, [], [])
  | n + 1 => dstep s (diter s n)
theorem diter_lt (s : ByteArray) : ∀ n d, (diter s n).1 + d + 1 ≤ (diter s (n + d + 1)).1 := fun n d => by
  have step : ∀ m, (diter s m).1 + 1 ≤ (diter s (m + 1)).1 := fun m => by
    rw [diter, dstep]
    split <;> dsimp only <;> omega
  induction d with
  | zero => exact step n
  | succ d ih => have := step (n + d + 1); rw [show n + (d + 1) + 1 = n + d + 1 + 1 by omega]; omega
theorem diter_one {s : ByteArray} {n m : Nat} (h : (diter s n).1 = (diter s m).1) : n = m := by
  rcases Nat.lt_trichotomy n m with hlt | rfl | hlt
  · have := diter_lt s n (m - n - 1); rw [show n + (m - n - 1) + 1 = m by omega] at this; omega
  · rfl
  · have := diter_lt s m (n - m - 1); rw [show m + (n - m - 1) + 1 = n by omega] at this; omega
open Classical in
/-- The stream that is written. -/
noncomputable def deflT (s : ByteArray) : List UInt8 :=
  if h : ∃ n, (diter s n).1 = s.size then
    (if (textOf (lowB 3 3 ++ (diter s h.choose).2.1 ++ cbits fixedLit 256)).length < (storedS s.data.toList).length then textOf (lowB 3 3 ++ (diter s h.choose).2.1 ++ cbits fixedLit 256) else storedS s.data.toList)
  else []
theorem deflT_eq {s : ByteArray} {n : Nat} {L : List Bool} {ents : List (ByteArray × Value)} (h : diter s n = (s.size, L, ents)) :
    deflT s = if (textOf (lowB 3 3 ++ L ++ cbits fixedLit 256)).length < (storedS s.data.toList).length then textOf (lowB 3 3 ++ L ++ cbits fixedLit 256) else storedS s.data.toList := by
  have hx : ∃ n, (diter s n).1 = s.size := ⟨n, by rw [h]⟩
  unfold deflT
  rw [dif_pos hx]
  have : hx.choose = n := diter_one (hx.choose_spec.trans (by rw [h]))
  rw [this, h]
theorem len_next : ∀ k, k < 28 → (lenBase (k + 1)).1 ≤ (lenBase k).1 + 2 ^ (lenBase k).2 := by decide +kernel
theorem dist_next : ∀ k, k < 29 → (distBase (k + 1)).1 ≤ (distBase k).1 + 2 ^ (distBase k).2 := by decide +kernel
/-- The symbol of a length. -/
theorem symlen_spec {n : Nat} (h3 : 3 ≤ n) (hn : n ≤ 258) (w : World) :
    Calls Tryz.prog F_inflate_symbolOf #[.int .i64 (n : Int), .int .i64 28, .func (.func F_inflate_lengthBase) #[] #[]] w fun e w' => ∃ a more : Nat, e = .returned (.tuple #[.int .i64 (a : Int), .int .u32 (more : Int), .int .i64 (((lenBase a).2 : Nat) : Int)]) ∧
      a ≤ 28 ∧ (lenBase a).1 + more = n ∧ more < 2 ^ (lenBase a).2 ∧ SymOf lenBase 28 n a ∧ w' = w := by
  refine vc_inflate_symbolOf_len_ok (R := fun v w' => ∃ a more : Nat, v = .tuple #[.int .i64 (a : Int), .int .u32 (more : Int), .int .i64 (((lenBase a).2 : Nat) : Int)] ∧ a ≤ 28 ∧ (lenBase a).1 + more = n ∧ more < 2 ^ (lenBase a).2 ∧ SymOf lenBase 28 n a ∧ w' = w) ?_ (fun v w' ⟨a, more, h⟩ => ⟨a, more, by rw [h.1], h.2⟩)
  refine ⟨fun i w' => ∃ k : Nat, i = (k : Int) ∧ k ≤ 28 ∧ (k = 28 ∨ n < (lenBase (k + 1)).1) ∧ w' = w, fun i _ => i.toNat, ⟨28, rfl, by omega, .inl rfl, rfl⟩, ?_⟩
  rintro i w4 ⟨k, rfl, hk, hnext, hw⟩
  replace hw := hw.symm
  subst hw
  refine (lbase_spec k hk w).mono ?_
  rintro e w6 ⟨rfl, hw⟩
  replace hw := hw.symm
  subst hw
  have hb := lenBase_le k hk
  refine ⟨_, _, rfl, fun hle => ?_, fun hgt => ?_⟩
  · have hle := of_decide_eq_true hle
    refine ⟨k, n - (lenBase k).1, ?_, hk, by omega, ?_, ⟨hk, by omega, hnext⟩, rfl⟩
    · rw [wrap_i64 (by omega) (by omega), wrap_u32 (by omega) (by omega), show ((n : Int) - ((lenBase k).1 : Int)) = ((n - (lenBase k).1 : Nat) : Int) by omega]
    · have hp := Nat.two_pow_pos (lenBase k).2
      rcases hnext with rfl | hlt
      · have : (lenBase 28).1 = 258 := rfl
        omega
      · by_cases h28 : k = 28
        · subst h28
          have : (lenBase 28).1 = 258 := rfl
          omega
        · have := len_next k (by omega)
          omega
  · have hgt := of_decide_eq_false hgt
    have h0 : k ≠ 0 := fun hh => by subst hh; have : (lenBase 0).1 = 3 := rfl; omega
    obtain ⟨j, rfl⟩ : ∃ j, k = j + 1 := ⟨k - 1, by omega⟩
    have e1 : IntKind.i64.wrap (((j + 1 : Nat) : Int) - 1) = (j : Int) := by rw [wrap_i64 (by omega) (by omega)]; omega
    rw [e1]
    exact ⟨⟨j, rfl, by omega, .inr (by omega), rfl⟩, by dsimp only; omega⟩
/-- The symbol of a distance. -/
theorem symdist_spec {n : Nat} (h1 : 1 ≤ n) (hn : n ≤ 32768) (w : World) :
    Calls Tryz.prog F_inflate_symbolOf #[.int .i64 (n : Int), .int .i64 29, .func (.func F_inflate_distBase) #[] #[]] w fun e w' => ∃ a more : Nat, e = .returned (.tuple #[.int .i64 (a : Int), .int .u32 (more : Int), .int .i64 (((distBase a).2 : Nat) : Int)]) ∧
      a ≤ 29 ∧ (distBase a).1 + more = n ∧ more < 2 ^ (distBase a).2 ∧ SymOf distBase 29 n a ∧ w' = w := by
  refine vc_inflate_symbolOf_dist_ok (R := fun v w' => ∃ a more : Nat, v = .tuple #[.int .i64 (a : Int), .int .u32 (more : Int), .int .i64 (((distBase a).2 : Nat) : Int)] ∧ a ≤ 29 ∧ (distBase a).1 + more = n ∧ more < 2 ^ (distBase a).2 ∧ SymOf distBase 29 n a ∧ w' = w) ?_ (fun v w' ⟨a, more, h⟩ => ⟨a, more, by rw [h.1], h.2⟩)
  refine ⟨fun i w' => ∃ k : Nat, i = (k : Int) ∧ k ≤ 29 ∧ (k = 29 ∨ n < (distBase (k + 1)).1) ∧ w' = w, fun i _ => i.toNat, ⟨29, rfl, by omega, .inl rfl, rfl⟩, ?_⟩
  rintro i w4 ⟨k, rfl, hk, hnext, hw⟩
  replace hw := hw.symm
  subst hw
  refine (dbase_spec k hk w).mono ?_
  rintro e w6 ⟨rfl, hw⟩
  replace hw := hw.symm
  subst hw
  have hb := distBase_le k hk
  refine ⟨_, _, rfl, fun hle => ?_, fun hgt => ?_⟩
  · have hle := of_decide_eq_true hle
    refine ⟨k, n - (distBase k).1, ?_, hk, by omega, ?_, ⟨hk, by omega, hnext⟩, rfl⟩
    · rw [wrap_i64 (by omega) (by omega), wrap_u32 (by omega) (by omega), show ((n : Int) - ((distBase k).1 : Int)) = ((n - (distBase k).1 : Nat) : Int) by omega]
    · have hp := Nat.two_pow_pos (distBase k).2
      rcases hnext with rfl | hlt
      · have : (distBase 29).1 = 24577 := rfl
        have : 2 ^ (distBase 29).2 = 8192 := rfl
        omega
      · by_cases h28 : k = 29
        · subst h28
          have : (distBase 29).1 = 24577 := rfl
          have : 2 ^ (distBase 29).2 = 8192 := rfl
          omega
        · have := dist_next k (by omega)
          omega
  · have hgt := of_decide_eq_false hgt
    have h0 : k ≠ 0 := fun hh => by subst hh; have : (distBase 0).1 = 1 := rfl; omega
    obtain ⟨j, rfl⟩ : ∃ j, k = j + 1 := ⟨k - 1, by omega⟩
    have e1 : IntKind.i64.wrap (((j + 1 : Nat) : Int) - 1) = (j : Int) := by rw [wrap_i64 (by omega) (by omega)]; omega
    rw [e1]
    exact ⟨⟨j, rfl, by omega, .inr (by omega), rfl⟩, by dsimp only; omega⟩
/-- Deflating, in order. -/
structure DSt (w0 w : World) (b lo hi lb db r : Nat) (sl : Sl) (M : List Bool) (ents : List (ByteArray × Value)) : Prop where
  wr : Wrt w b sl M
  mp : MapOf w r ents
  lit : Tab w lo hi lb fixedLit
  dist : Tab w lo hi db fixedDist
  fr : Fr (fun _ => False) w0 w
  sls : ∀ y, sl.a = some y → hi ≤ y.block ∧ y.block ≠ r
  hb : w0.heap.size ≤ b
  hlo : b < lo
  hhi : hi ≤ r
  hbr : b < r
theorem DSt.wx {w0 w : World} {b lo hi lb db r : Nat} {sl : Sl} {M : List Bool} {ents : List (ByteArray × Value)} (h : DSt w0 w b lo hi lb db r sl M ents) {k : Nat} (hk : WX b sl k) : k = b ∨ (hi ≤ k ∧ k ≠ r) := by
  rcases hk with hk | ⟨y, hy, e⟩
  · exact .inl hk
  · have := h.sls y hy; exact .inr (by omega)
theorem DSt.put {w0 w w2 : World} {b lo hi lb db r : Nat} {sl sl' : Sl} {M M' : List Bool} {ents : List (ByteArray × Value)} (h : DSt w0 w b lo hi lb db r sl M ents) (hw : Wrt w2 b sl' M') (hf : Fr (WX b sl) w w2) (hs : Since w sl sl') : DSt w0 w2 b lo hi lb db r sl' M' ents := by
  have hlo := h.hlo
  have hhi := h.hhi
  have hbr := h.hbr
  refine ⟨hw, h.mp.keep hf fun hx => ?_, h.lit.keep hf fun k h1 h2 hx => ?_, h.dist.keep hf fun k h1 h2 hx => ?_, h.fr.trans hf fun k hk hx => ?_, fun y hy => ?_, h.hb, h.hlo, h.hhi, h.hbr⟩
  · have := h.wx hx; omega
  · have := h.wx hx; omega
  · have := h.wx hx; omega
  · rcases hx with hx | ⟨y, hy, e⟩
    · have := h.hb; omega
    · have := (h.wr.1.own.blk hy).1; have := h.hb; omega
  · rcases hs y hy with ⟨x, hx, he⟩ | hn
    · have := h.sls x hx; omega
    · have := h.mp.lt; omega
theorem DSt.keep {w0 w w2 : World} {b lo hi lb db r : Nat} {sl : Sl} {M : List Bool} {ents : List (ByteArray × Value)} (h : DSt w0 w b lo hi lb db r sl M ents) (hf : Fr (fun _ => False) w w2) : DSt w0 w2 b lo hi lb db r sl M ents :=
  ⟨h.wr.keep hf (by simp) (by simp), h.mp.keep hf (by simp), h.lit.keep hf (by simp), h.dist.keep hf (by simp), h.fr.trans' hf, h.sls, h.hb, h.hlo, h.hhi, h.hbr⟩
theorem DSt.drew {w0 w w2 : World} {b lo hi lb db r : Nat} {sl : Sl} {M : List Bool} {ents : List (ByteArray × Value)} (h : DSt w0 w b lo hi lb db r sl M ents) (d : Drew w w2) : DSt w0 w2 b lo hi lb db r sl M ents := h.keep (.drew _ d)
theorem DSt.map {w0 w w2 : World} {b lo hi lb db r : Nat} {sl : Sl} {M : List Bool} {ents ents' : List (ByteArray × Value)} (h : DSt w0 w b lo hi lb db r sl M ents) (hm : MapOf w2 r ents') (hf : Fr (· = r) w w2) : DSt w0 w2 b lo hi lb db r sl M ents' := by
  have hhi := h.hhi
  have hbr := h.hbr
  have hb := h.hb
  refine ⟨h.wr.keep hf (by omega) (fun y hy => (h.sls y hy).2), hm, h.lit.keep hf (fun k h1 h2 => by omega), h.dist.keep hf (fun k h1 h2 => by omega), h.fr.trans hf fun k hk hx => by omega, h.sls, hb, h.hlo, hhi, hbr⟩
/-- A code put. -/
theorem code_put {w : World} {b : Nat} {sl : Sl} {M : List Bool} (h : Wrt w b sl M) {lo hi tb : Nat} {ls : List Nat} (ht : Tab w lo hi tb ls) {s n : Nat} (hs : ls[s]? = some n) (h1 : 1 ≤ n) (hl : M.length + 32 ≤ 1099511627776) {Q : World → Prop}
    (hQ : ∀ w2 sl', Wrt w2 b sl' (M ++ cbits ls s) → Fr (WX b sl) w w2 → Since w sl sl' → Q w2) :
    Calls Tryz.prog F_huff_Table_Code #[.pointer (some ⟨tb, 0, none⟩), .int .i64 (s : Int)] w fun e w' => ∃ x k : Int, e = .returned (.tuple #[.int .u32 x, .int .i64 k]) ∧
      Calls Tryz.prog F_bitin_Writer_Code #[.pointer (some ⟨b, 0, none⟩), .int .u32 x, .int .i64 k] w' fun e w2 => e = .returned (.tuple #[]) ∧ Q w2 := by
  refine (hcode_spec ht (s : Int)).mono ?_
  rintro e w' ⟨rfl, hw⟩
  replace hw := hw.symm
  subst hw
  have hg : ls.getD s 0 = n := getD_of hs
  have hn15 := ht.fits.mem hs
  have hcd : cd ls (s : Int) = (code ls s, n) := by
    unfold cd
    rw [Int.toNat_natCast, hg, if_pos ⟨by omega, by omega⟩]
  rw [hcd]
  have hc1 := code_lt hs h1
  have hc2 := ht.fits.le hn15
  have hp : 2 ^ n ≤ 2 ^ 15 := Nat.pow_le_pow_right (by decide) hn15
  refine ⟨_, _, rfl, (wcode_spec h (x := code ls s) (n := n) (by omega) h1 (by omega) (by omega)).mono ?_⟩
  rintro e w2 ⟨rfl, sl', hw', hf, hsn⟩
  refine ⟨rfl, hQ w2 sl' ?_ hf hsn⟩
  unfold cbits
  rw [hg]
  exact hw'
theorem get_byt {s : ByteArray} {i : Nat} (h : i < s.size) : s.data.toList[i]? = some (UInt8.ofNat (byt s i)) := by
  have hlt : i < s.data.toList.length := by simp only [Array.length_toList]; exact h
  rw [List.getElem?_eq_getElem hlt]
  unfold byt
  rw [List.getElem?_eq_getElem hlt]
  simp
/-- What stands under every key is a place before this one. -/
def Before (ents : List (ByteArray × Value)) (i : Nat) : Prop := ∀ x ∈ ents, ∃ v : Nat, x.2 = .int .i64 (v : Int) ∧ v < i
theorem Before.upd {ents : List (ByteArray × Value)} {i : Nat} (h : Before ents i) (k : ByteArray) : Before (mupd ents k (.int .i64 (i : Int))) (i + 1) :=
  mupd_all ⟨i, rfl, by omega⟩ ents fun x hx => by obtain ⟨v, h1, h2⟩ := h x hx; exact ⟨v, h1, by omega⟩
theorem Before.more {ents : List (ByteArray × Value)} {i j : Nat} (h : Before ents i) (hj : i ≤ j) : Before ents j := fun x hx => by
  obtain ⟨v, h1, h2⟩ := h x hx; exact ⟨v, h1, by omega⟩
/-- 'Deflate'. -/
theorem deflate_spec (s : ByteArray) (hs : s.size ≤ 100000000) (w : World) :
    Calls Tryz.prog F_inflate_Deflate #[.string s] w fun e w' => e = .returned (.string ⟨(deflT s).toArray⟩) ∧ DefM.Stream (deflT s) s.data.toList ∧ (deflT s).length ≤ (storedS s.data.toList).length ∧ Fr (fun _ => False) w w' := by
  refine vc_inflate_Deflate_ok (R := fun v w' => v = .string ⟨(deflT s).toArray⟩ ∧ DefM.Stream (deflT s) s.data.toList ∧ (deflT s).length ≤ (storedS s.data.toList).length ∧ Fr (fun _ => False) w w') ?_ (fun v w' h => ⟨by rw [h.1], h.2⟩)
  have hsl : s.data.toList.length = s.size := by simp
  intro w1 h1
  have hf1 : Fr (fun _ => False) w w1 := h1 ▸ Fr.alloc _ _ _
  have hw1 : Wrt w1 w.heap.size ⟨none, 0, 0⟩ [] := Wrt.zero (by rw [h1]; exact alloc_new _ _)
  have hs1 : w1.heap.size = w.heap.size + 1 := by rw [h1]; exact Array.size_push ..
  refine (fixed_spec w1).mono ?_
  rintro e w3 ⟨lb, db, rfl, hlit, hdist, hf3⟩
  have hs3 := hf3.size
  refine ⟨_, _, rfl, ?_⟩
  refine (wbits_spec (hw1.keep hf3 (by simp) (by simp)) (x := 3) (n := 3) (by decide) (by decide) (by simp)).mono ?_
  rintro e w7 ⟨rfl, sl7, hw7, hf7, hs7⟩
  refine ⟨rfl, fun w8 h8 => ?_⟩
  have hs7s := hf7.size
  have hf8 : Fr (fun _ => False) w7 w8 := h8 ▸ Fr.alloc _ _ _
  have hsl7 : ∀ y, sl7.a = some y → w3.heap.size ≤ y.block := fun y hy => by
    rcases hs7 y hy with ⟨x, hx, _⟩ | hn
    · cases hx
    · exact hn
  have hwx : ∀ k, WX w.heap.size ⟨none, 0, 0⟩ k → k = w.heap.size := fun k hk => by
    rcases hk with hk | ⟨y, hy, _⟩
    · exact hk
    · cases hy
  have hD0 : DSt w w8 w.heap.size w1.heap.size w3.heap.size lb db w7.heap.size sl7 (lowB 3 3) [] := by
    refine ⟨hw7.keep hf8 (by simp) (by simp), h8 ▸ MapOf.new, ?_, ?_, ?_, fun y hy => ⟨hsl7 y hy, ?_⟩, Nat.le_refl _, by omega, hs7s, by omega⟩
    · exact (hlit.keep hf7 fun k h1 h2 hx => by have := hwx k hx; omega).keep hf8 (by simp)
    · exact (hdist.keep hf7 fun k h1 h2 hx => by have := hwx k hx; omega).keep hf8 (by simp)
    · exact ((hf1.trans' hf3).trans hf7 fun k hk hx => by have := hwx k hx; omega).trans' hf8
    · have := (hw7.1.own.blk hy).2; omega
  generalize w7.heap.size = r at *
  generalize w.heap.size = b at *
  generalize w1.heap.size = lo at *
  generalize w3.heap.size = hi at *
  refine ⟨fun i w' => ∃ (k : Nat) (sl : Sl) (L : List Bool) (ents : List (ByteArray × Value)), i = (k : Int) ∧ k ≤ s.size ∧ DSt w w' b lo hi lb db r sl (lowB 3 3 ++ L) ents ∧ DefM.Enc s.data.toList k L ∧ L.length ≤ 32 * k ∧ Before ents k ∧ ∃ it, diter s it = (k, L, ents),
    fun i _ => s.size - i.toNat, ⟨0, sl7, [], [], rfl, Nat.zero_le _, hD0, DefM.enc_zero _, Nat.le_refl _, (by intro x hx; cases hx), 0, rfl⟩, ?_⟩
  rintro i w12 ⟨k, sl, L, ents, rfl, hk, hD, hE, hL, hB, it, hit⟩
  have hLl : (lowB 3 3 ++ L).length = 3 + L.length := by rw [List.length_append, lowB_length]
  refine ⟨fun hlt => ?_, fun hge => ?_⟩
  rotate_left 1
  · have hge := of_decide_eq_false hge
    have hkk : k = s.size := by omega
    subst hkk
    refine code_put hD.wr hD.lit (s := 256) (DefM.lit_get (by omega)) (by decide) (by omega) fun w69 sl69 hw69 hf69 hs69 => ?_
    have hD69 := hD.put hw69 hf69 hs69
    refine (wtext_spec hw69).mono ?_
    rintro e w71 ⟨rfl, hf71⟩
    refine ⟨_, rfl, ?_⟩
    have hst := DefM.stream_packed (L := L) (s := s.data.toList) (by rw [hsl]; exact hE)
    rw [← List.append_assoc] at hst
    have hdt := deflT_eq hit
    generalize textOf (lowB 3 3 ++ L ++ cbits fixedLit 256) = t at hst hdt
    have hfin := hD69.fr.trans' hf71
    have hsz : ∀ l : List UInt8, ByteArray.size ⟨l.toArray⟩ = l.length := fun l => by simp [ByteArray.size]
    refine (stored5_spec s hs w71).mono ?_
    rintro e w74 ⟨rfl, hf74⟩
    refine ⟨_, rfl, fun hlt => ?_, fun hge => ?_⟩
    · have hlt := of_decide_eq_true hlt
      rw [hsz, hsz] at hlt
      rw [if_pos (by omega)] at hdt
      rw [hdt]
      exact ⟨rfl, hst, by omega, hfin.trans' hf74⟩
    · have hge := of_decide_eq_false hge
      rw [hsz, hsz] at hge
      rw [if_neg (by omega)] at hdt
      rw [hdt]
      refine (stored5_spec s hs w74).mono ?_
      rintro e w77 ⟨rfl, hf77⟩
      exact ⟨_, rfl, rfl, ⟨8 * (storedS s.data.toList).length, by omega, DefM.stream_stored _ _ rfl⟩, Nat.le_refl _, (hfin.trans' hf74).trans' hf77⟩
  have hlt := of_decide_eq_true hlt
  have hks : k < s.size := by omega
  have e3 : IntKind.i64.wrap ((k : Int) + 3) = ((k + 3 : Nat) : Int) := by rw [wrap_i64 (by omega) (by omega)]; omega
  -- what is found
  refine ⟨fun n back w' => ∃ (m q : Nat) (ents' : List (ByteArray × Value)), n = (m : Int) ∧ back = (q : Int) ∧ DSt w w' b lo hi lb db r sl (lowB 3 3 ++ L) ents' ∧ Before ents' (k + 1) ∧ dfind s k ents = (m, q, ents') ∧
      (m < 3 ∨ (m ≤ 258 ∧ 1 ≤ q ∧ q ≤ k ∧ q ≤ 32768 ∧ k + m ≤ s.size ∧ ∀ j, j < m → s.data.toList[k - q + j]? = s.data.toList[k + j]?)), ⟨fun hle => ?_, fun hgt => ?_⟩, ?_⟩
  · have hle := of_decide_eq_true hle
    rw [e3] at hle ⊢
    refine ⟨⟨by omega, by omega, by omega⟩, ?_⟩
    rw [Int.toNat_natCast, Int.toNat_natCast]
    have hdf : dfind s k ents = match mlook ents (s.extract k (k + 3)) with
      | some (.int _ v) => if k - v.toNat ≤ 32768 then (alike s.data.toList v.toNat k 258 0, k - v.toNat, mupd ents (s.extract k (k + 3)) (.int .i64 (k : Int))) else (0, 0, mupd ents (s.extract k (k + 3)) (.int .i64 (k : Int)))
      | _ => (0, 0, mupd ents (s.extract k (k + 3)) (.int .i64 (k : Int))) := by unfold dfind; rw [if_pos (by omega)]
    generalize s.extract k (k + 3) = key at hdf ⊢
    have hlk := map_lookup (P := Tryz.prog) (mt := T_map_string_int) (kt := T_string) (et := T_int) (by kernel_rfl) (by kernel_rfl) (z := .int .i64 0) (w := w12) (by kernel_rfl) hD.mp key true
    have upd : ∀ {wx : World}, DSt w wx b lo hi lb db r sl (lowB 3 3 ++ L) ents → ∃ w', (Instr.mapUpdate T_map_string_int (.map (some r)) (.string key) (.int .i64 (k : Int))).run Tryz.prog wx = .ok () w' ∧ DSt w w' b lo hi lb db r sl (lowB 3 3 ++ L) (mupd ents key (.int .i64 (k : Int))) := fun hx => by
      obtain ⟨w', hr, hm, hf⟩ := map_update (P := Tryz.prog) (mt := T_map_string_int) (kt := T_string) (et := T_int) (by kernel_rfl) (by kernel_rfl) hx.mp key (.int .i64 (k : Int))
      exact ⟨w', hr, hx.map hm hf⟩
    have hlast : ∀ (n back : Int) (wx : World), DSt w wx b lo hi lb db r sl (lowB 3 3 ++ L) ents → (∃ m q : Nat, n = (m : Int) ∧ back = (q : Int) ∧ dfind s k ents = (m, q, mupd ents key (.int .i64 (k : Int))) ∧ (m < 3 ∨ (m ≤ 258 ∧ 1 ≤ q ∧ q ≤ k ∧ q ≤ 32768 ∧ k + m ≤ s.size ∧ ∀ j, j < m → s.data.toList[k - q + j]? = s.data.toList[k + j]?))) →
        ∃ w', (Instr.mapUpdate T_map_string_int (.map (some r)) (.string key) (.int .i64 (k : Int))).run Tryz.prog wx = .ok () w' ∧ ∃ (m q : Nat) (ents' : List (ByteArray × Value)), n = (m : Int) ∧ back = (q : Int) ∧ DSt w w' b lo hi lb db r sl (lowB 3 3 ++ L) ents' ∧ Before ents' (k + 1) ∧ dfind s k ents = (m, q, ents') ∧
          (m < 3 ∨ (m ≤ 258 ∧ 1 ≤ q ∧ q ≤ k ∧ q ≤ 32768 ∧ k + m ≤ s.size ∧ ∀ j, j < m → s.data.toList[k - q + j]? = s.data.toList[k + j]?)) := fun n back wx hx hmq => by
      obtain ⟨w', hr, hx'⟩ := upd hx
      obtain ⟨m, q, h1, h2, h4, h3⟩ := hmq
      exact ⟨w', hr, m, q, _, h1, h2, hx', hB.upd key, h4, h3⟩
    have hbnd : (0 ≤ (k : Int) ∧ (k : Int) ≤ ((k + 3 : Nat) : Int) ∧ ((k + 3 : Nat) : Int) ≤ (s.size : Int)) := ⟨by omega, by omega, by omega⟩
    cases hml : mlook ents key with
    | none =>
      rw [hml] at hlk hdf
      exact ⟨w12, 0, false, hlk, fun hh => (by cases hh), fun _ => ⟨hbnd, hlast 0 0 w12 hD ⟨0, 0, rfl, rfl, hdf, .inl (by decide)⟩⟩⟩
    | some v =>
      rw [hml] at hlk hdf
      obtain ⟨at_, hv, hat⟩ := hB _ (mlook_mem hml)
      simp only at hv
      subst hv
      dsimp only at hdf
      rw [Int.toNat_natCast] at hdf
      refine ⟨w12, at_, true, hlk, fun _ => ?_, fun hh => (by cases hh)⟩
      have e4 : IntKind.i64.wrap ((k : Int) - (at_ : Int)) = ((k - at_ : Nat) : Int) := by rw [wrap_i64 (by omega) (by omega)]; omega
      rw [e4]
      refine ⟨fun h32 => ?_, fun h32 => ⟨hbnd, hlast 0 0 w12 hD ⟨0, 0, rfl, rfl, by rw [hdf, if_neg (by have := of_decide_eq_false h32; omega)], .inl (by decide)⟩⟩⟩
      have h32 := of_decide_eq_true h32
      rw [if_pos (by omega)] at hdf
      refine ⟨fun n w' => ∃ m : Nat, n = (m : Int) ∧ m ≤ 258 ∧ k + m ≤ s.size ∧ (∀ j, j < m → s.data.toList[at_ + j]? = s.data.toList[k + j]?) ∧ alike s.data.toList at_ k 258 0 = alike s.data.toList at_ k (258 - m) m ∧ DSt w w' b lo hi lb db r sl (lowB 3 3 ++ L) ents, fun n _ => 258 - n.toNat, ⟨0, rfl, by omega, by omega, fun j hj => by omega, rfl, hD⟩, ?_⟩
      rintro n w20 ⟨m, rfl, hm, hkm, hj, hal, hD20⟩
      have e5 : IntKind.i64.wrap ((k : Int) + (m : Int)) = ((k + m : Nat) : Int) := by rw [wrap_i64 (by omega) (by omega)]; omega
      have e6 : IntKind.i64.wrap ((at_ : Int) + (m : Int)) = ((at_ + m : Nat) : Int) := by rw [wrap_i64 (by omega) (by omega)]; omega
      have e7 : IntKind.i64.wrap ((m : Int) + 1) = ((m + 1 : Nat) : Int) := by rw [wrap_i64 (by omega) (by omega)]; omega
      rw [e5, e6, e7]
      have found : alike s.data.toList at_ k 258 0 = m → ∃ m' q : Nat, (m : Int) = (m' : Int) ∧ ((k - at_ : Nat) : Int) = (q : Int) ∧ dfind s k ents = (m', q, mupd ents key (.int .i64 (k : Int))) ∧ (m' < 3 ∨ (m' ≤ 258 ∧ 1 ≤ q ∧ q ≤ k ∧ q ≤ 32768 ∧ k + m' ≤ s.size ∧ ∀ j, j < m' → s.data.toList[k - q + j]? = s.data.toList[k + j]?)) := fun hm0 =>
        ⟨m, k - at_, rfl, rfl, by rw [hdf, hm0], .inr ⟨hm, by omega, by omega, by omega, hkm, fun j h => by rw [show k - (k - at_) = at_ by omega]; exact hj j h⟩⟩
      refine ⟨fun hlt => ?_, fun hge w25 d25 => ⟨hbnd, hlast _ _ w25 (hD20.drew d25) (found ?_)⟩⟩
      rotate_left 1
      · have hge := of_decide_eq_false hge
        rw [hal, show 258 - m = 0 by omega]; rfl
      have hlt := of_decide_eq_true hlt
      obtain ⟨f, hf⟩ : ∃ f, 258 - m = f + 1 := ⟨258 - m - 1, by omega⟩
      rw [hf] at hal
      have hsa : alike s.data.toList at_ k (f + 1) m = if k + m < s.data.toList.length ∧ s.data.toList[at_ + m]? = s.data.toList[k + m]? then alike s.data.toList at_ k f (m + 1) else m := rfl
      rw [hsa] at hal
      refine ⟨fun hin => ?_, fun hout w23 d23 => ⟨hbnd, hlast _ _ w23 (hD20.drew d23) (found ?_)⟩⟩
      rotate_left 1
      · have hout := of_decide_eq_false hout
        rw [hal, if_neg (fun hh => by omega)]
      have hin := of_decide_eq_true hin
      refine ⟨⟨by omega, by omega⟩, ⟨by omega, by omega⟩, fun w21 d21 => ?_⟩
      rw [byteAt_nat, byteAt_nat]
      have g1 := get_byt (s := s) (i := at_ + m) (by omega)
      have g2 := get_byt (s := s) (i := k + m) (by omega)
      refine ⟨fun heq => ?_, fun hne => ⟨hbnd, hlast _ _ w21 (hD20.drew d21) (found ?_)⟩⟩
      · have heq : byt s (at_ + m) = byt s (k + m) := by have := eq_of_beq heq; omega
        have hsame : s.data.toList[at_ + m]? = s.data.toList[k + m]? := by rw [g1, g2, heq]
        rw [if_pos ⟨by omega, hsame⟩] at hal
        refine ⟨⟨m + 1, rfl, by omega, by omega, fun j h => ?_, by rw [hal, show 258 - (m + 1) = f by omega], hD20.drew d21⟩, by dsimp only; omega⟩
        by_cases hjm : j = m
        · subst hjm; exact hsame
        · exact hj j (by omega)
      · rw [hal, if_neg]
        rintro ⟨_, hh⟩
        rw [g1, g2, Option.some.injEq, ← UInt8.toNat_inj, toNat_byt, toNat_byt] at hh
        rw [hh] at hne
        simp at hne
  · have hgt := of_decide_eq_false hgt
    rw [e3] at hgt
    exact ⟨0, 0, ents, rfl, rfl, hD, hB.more (by omega), by unfold dfind; rw [if_neg (by omega)], .inl (by decide)⟩
  -- what is written
  rintro n back w31 ⟨m, q, ents', rfl, rfl, hD31, hB31, hdf, hmq⟩
  have hstep : diter s (it + 1) = dstep s (k, L, ents) := by rw [diter, hit]
  unfold dstep at hstep
  dsimp only at hstep
  rw [hdf] at hstep
  dsimp only at hstep
  refine ⟨fun hlt3 => ?_, fun hge3 => ?_⟩
  · have hlt3 := of_decide_eq_true hlt3
    have hb := byt_lt s k
    rw [byteAt_nat, wrap_i64 (by omega) (by omega)]
    have e1 : IntKind.i64.wrap ((k : Int) + 1) = ((k + 1 : Nat) : Int) := by rw [wrap_i64 (by omega) (by omega)]; omega
    rw [e1]
    refine ⟨⟨by omega, by omega⟩, ?_⟩
    have hfx := DefM.fixN_le (byt s k)
    refine code_put hD31.wr hD31.lit (s := byt s k) (DefM.lit_get (by omega)) (by omega) (by omega) fun w37 sl37 hw37 hf37 hs37 => ?_
    have hD37 := hD31.put hw37 hf37 hs37
    have hE37 := DefM.enc_lit hE (get_byt hks)
    rw [toNat_byt] at hE37
    rw [List.append_assoc] at hD37
    exact ⟨⟨k + 1, sl37, _, ents', rfl, by omega, hD37, hE37, by rw [List.length_append, DefM.lit_len (by omega)]; omega, hB31, it + 1, by rw [hstep, if_pos (by omega)]⟩, by dsimp only; omega⟩
  · have hge3 := of_decide_eq_false hge3
    obtain ⟨hm258, hq1, hqk, hq32, hkm, hj⟩ := hmq.resolve_left (by omega)
    refine (symlen_spec (n := m) (by omega) hm258 w31).mono ?_
    rintro e w39 ⟨a, more, rfl, ha, ham, hmore, hsa, hw⟩
    replace hw := hw.symm
    subst hw
    have e1 : IntKind.i64.wrap (257 + (a : Int)) = ((257 + a : Nat) : Int) := by rw [wrap_i64 (by omega) (by omega)]; omega
    have e2 : IntKind.i64.wrap ((k : Int) + (m : Int)) = ((k + m : Nat) : Int) := by rw [wrap_i64 (by omega) (by omega)]; omega
    obtain ⟨hl1, hl2⟩ := lenBase_le a ha
    have hp5 : 2 ^ (lenBase a).2 ≤ 2 ^ 5 := Nat.pow_le_pow_right (by decide) hl2
    refine ⟨_, _, _, rfl, ?_⟩
    rw [e1, e2]
    have hfx := DefM.fixN_le (257 + a)
    refine code_put hD31.wr hD31.lit (s := 257 + a) (DefM.lit_get (by omega)) (by omega) (by omega) fun w48 sl48 hw48 hf48 hs48 => ?_
    have hD48 := hD31.put hw48 hf48 hs48
    have hl48 : (lowB 3 3 ++ L ++ cbits fixedLit (257 + a)).length = 3 + L.length + fixN (257 + a) := by rw [List.length_append, hLl, DefM.lit_len (by omega)]
    refine (wbits_spec hD48.wr (x := more) (n := (lenBase a).2) (by omega) (by omega) (by omega)).mono ?_
    rintro e w50 ⟨rfl, sl50, hw50, hf50, hs50⟩
    have hD50 := hD48.put hw50 hf50 hs50
    refine ⟨rfl, (symdist_spec (n := q) hq1 hq32 w50).mono ?_⟩
    rintro e w52 ⟨d, far', rfl, hd, hdd, hfar, hsd, hw⟩
    replace hw := hw.symm
    subst hw
    obtain ⟨hd1, hd2, hd3⟩ := distBase_le d hd
    have hp13 : 2 ^ (distBase d).2 ≤ 2 ^ 13 := Nat.pow_le_pow_right (by decide) hd3
    have hl50 : (lowB 3 3 ++ L ++ cbits fixedLit (257 + a) ++ lowB (lenBase a).2 more).length = 3 + L.length + fixN (257 + a) + (lenBase a).2 := by rw [List.length_append, hl48, lowB_length]
    refine ⟨_, _, _, rfl, ?_⟩
    refine code_put hD50.wr hD50.dist (s := d) (DefM.dist_get (by omega)) (by decide) (by omega) fun w61 sl61 hw61 hf61 hs61 => ?_
    have hD61 := hD50.put hw61 hf61 hs61
    have hl61 : (lowB 3 3 ++ L ++ cbits fixedLit (257 + a) ++ lowB (lenBase a).2 more ++ cbits fixedDist d).length = 3 + L.length + fixN (257 + a) + (lenBase a).2 + 5 := by rw [List.length_append, hl50, DefM.dist_len (by omega)]
    refine (wbits_spec hD61.wr (x := far') (n := (distBase d).2) (by omega) (by omega) (by omega)).mono ?_
    rintro e w63 ⟨rfl, sl63, hw63, hf63, hs63⟩
    have hD63 := hD61.put hw63 hf63 hs63
    have hE63 := DefM.enc_rep hE (a := a) (more := more) (d := d) (far := far') ha hd hmore hfar (by omega) (by rw [ham, hsl]; omega) (by rw [ham, hdd]; exact hj)
    rw [ham] at hE63
    rw [show lowB 3 3 ++ L ++ cbits fixedLit (257 + a) ++ lowB (lenBase a).2 more ++ cbits fixedDist d ++ lowB (distBase d).2 far' = lowB 3 3 ++ (L ++ DefM.repB a more d far') by unfold DefM.repB; simp only [List.append_assoc]] at hD63
    have hrl := DefM.repB_length (more := more) (far := far') ha hd
    exact ⟨rfl, ⟨k + m, sl63, _, ents', rfl, by omega, hD63, hE63, by rw [List.length_append, hrl]; omega, hB31.more (by omega), it + 1, by rw [hstep, if_neg (by omega), symF_eq len_mono hsa, symF_eq dist_mono hsd, show m - (lenBase a).1 = more by omega, show q - (distBase d).1 = far' by omega]⟩, by dsimp only; omega⟩
end Go.Proofs.YtcnpekohkbjnnaaGreatDoor

/- A stream is inflated wherever it stands. No condition. -/
set_option linter.unusedVariables false
namespace DefM
open BitsM HuffM InfM SumM Go.Proofs.YtcnpekohkbjnnaaGreatDoor
/-- A stream is inflated wherever it stands. -/
theorem stream_inflate {t s : List UInt8} (h : Stream t s) (front back : List UInt8) {most : Nat} (hm : most ≤ 65536) : InfM.inflate (front ++ (t ++ back)) (front.length : Int) (most : Int) = if s.length ≤ most then (s, t.length, 0) else ([], 0, 2) := by
  obtain ⟨p, hp, hst⟩ := h
  unfold InfM.inflate
  rw [if_neg (by rw [List.length_append]; omega), Int.toNat_natCast, Int.toNat_natCast, List.drop_left]
  unfold InfM.inf
  have := hst [] [] most back ((sbits (t ++ back)).length + 1) rfl (Nat.zero_le _) (by rw [sbits_length, List.length_append]; omega)
  simp only [List.nil_append, List.length_nil, Nat.zero_add] at this
  rw [this]
  by_cases hl : s.length ≤ most
  · rw [if_pos hl, if_pos hl]
    dsimp only
    rw [hp]
  · rw [if_neg hl, if_neg hl]
end DefM
namespace Go.Proofs.YtcnpekohkbjnnaaGreatDoor
theorem size_mk (l : List UInt8) : ByteArray.size ⟨l.toArray⟩ = l.length := by simp [ByteArray.size]
theorem data_mk (l : List UInt8) : (⟨l.toArray⟩ : ByteArray).data.toList = l := by simp
theorem bytes_ext {a b : ByteArray} (h : a.data.toList = b.data.toList) : a = b := ByteArray.ext (Array.ext' h)
theorem data_app (a b : ByteArray) : (a ++ b).data.toList = a.data.toList ++ b.data.toList := by simp
end Go.Proofs.YtcnpekohkbjnnaaGreatDoor

/- zlib's frames: written, and read back. Conditions: texts no longer than memory. -/
set_option linter.unusedVariables false
namespace Go.Proofs.YtcnpekohkbjnnaaGreatDoor
open Go Vc BitsM HuffM SumM Go.Proofs

/-- A frame round a stream. -/
def frameS (stream s : List UInt8) : List UInt8 := [120, 1] ++ stream ++ bigB 4 (adler s)
theorem zframe_spec (t s : ByteArray) (ht : t.size ≤ 1099511627776) (hs : s.size ≤ 1099511627776) (w : World) :
    Calls Tryz.prog F_zlib_frame #[.string t, .string s] w fun e w' => e = .returned (.string ⟨(frameS t.data.toList s.data.toList).toArray⟩) ∧ Fr (fun _ => False) w w' := by
  refine vc_zlib_frame_ok (R := fun v w' => v = .string ⟨(frameS t.data.toList s.data.toList).toArray⟩ ∧ Fr (fun _ => False) w w') ?_ (fun v w' h => ⟨by rw [h.1], h.2⟩)
  have hd : ByteArray.size ⟨#[120, 1]⟩ = 2 := rfl
  refine ⟨by rw [hd]; omega, (adler_spec s hs w).mono ?_⟩
  rintro e w2 ⟨rfl, hf2⟩
  have had := adler_lt s.data.toList
  refine ⟨_, rfl, ?_⟩
  rw [wrap_u64 (by omega) (by omega)]
  refine (big_spec (adler s.data.toList) 4 (by omega) (by decide) w2).mono ?_
  rintro e w5 ⟨rfl, hf5⟩
  have hb : ByteArray.size ⟨(bigB 4 (adler s.data.toList)).toArray⟩ = 4 := by simp [ByteArray.size, bigB_length]
  have hsa : (⟨#[120, 1]⟩ ++ t : ByteArray).size = 2 + t.size := by rw [ByteArray.size_append, hd]
  refine ⟨_, rfl, by rw [hsa, hb]; omega, ?_, hf2.trans' hf5⟩
  congr 1
theorem zwrite_spec (s : ByteArray) (hs : s.size ≤ 100000000) (w : World) :
    Calls Tryz.prog F_zlib_Write #[.string s] w fun e w' => e = .returned (.string ⟨(frameS (deflT s) s.data.toList).toArray⟩) ∧ DefM.Stream (deflT s) s.data.toList ∧ (deflT s).length ≤ 2 * s.size + 5 ∧ Fr (fun _ => False) w w' := by
  refine vc_zlib_Write_ok (R := fun v w' => v = .string ⟨(frameS (deflT s) s.data.toList).toArray⟩ ∧ DefM.Stream (deflT s) s.data.toList ∧ (deflT s).length ≤ 2 * s.size + 5 ∧ Fr (fun _ => False) w w') ?_ (fun v w' h => ⟨by rw [h.1], h.2⟩)
  refine (deflate_spec s hs w).mono ?_
  have hsl5 := storedS_len s.data.toList.length s.data.toList rfl
  rw [show s.data.toList.length = s.size by simp] at hsl5
  rintro e w2 ⟨rfl, hst, hlen, hf2⟩
  refine ⟨_, rfl, (zframe_spec ⟨(deflT s).toArray⟩ s (by rw [size_mk (deflT s)]; omega) (by omega) w2).mono ?_⟩
  rintro e w5 ⟨rfl, hf5⟩
  rw [data_mk]
  exact ⟨_, rfl, rfl, hst, by omega, hf2.trans' hf5⟩
/-- A frame is read wherever it stands; one whose sum is another is refused. -/
theorem zread_stream {t s front q back : List UInt8} (h : DefM.Stream t s) {most : Nat} (h1 : s.length ≤ most) (hm : most ≤ 65536) (hq : q.length = 4) :
    ZlM.read (front ++ ([120, 1] ++ t ++ q ++ back)) (front.length : Int) (most : Int) = if q = bigB 4 (adler s) then (s, t.length + 6, 0) else ([], 0, 5) := by
  have hl : (front ++ ([120, 1] ++ t ++ q ++ back)).length = front.length + (6 + t.length + back.length) := by
    simp only [List.length_append, hq, List.length_cons, List.length_nil]; omega
  have hi : InfM.inflate (front ++ ([120, 1] ++ t ++ q ++ back)) ((front.length : Int) + 2) (most : Int) = (s, t.length, 0) := by
    have := DefM.stream_inflate h (front ++ [120, 1]) (q ++ back) hm
    rw [if_pos h1, List.length_append, show (([120, 1] : List UInt8).length) = 2 from rfl] at this
    rw [show (front.length : Int) + 2 = ((front.length + 2 : Nat) : Int) by omega]
    rw [← this]
    simp only [List.append_assoc]
  have hg0 : (front ++ ([120, 1] ++ t ++ q ++ back)).getD front.length 0 = 120 := by
    rw [List.getD_eq_getElem?_getD, List.getElem?_append_right (Nat.le_refl _), Nat.sub_self]; rfl
  have hg1 : (front ++ ([120, 1] ++ t ++ q ++ back)).getD (front.length + 1) 0 = 1 := by
    rw [List.getD_eq_getElem?_getD, List.getElem?_append_right (by omega), Nat.add_sub_cancel_left]; rfl
  have hd : ((front ++ ([120, 1] ++ t ++ q ++ back)).drop (front.length + 2 + t.length)).take 4 = q := by
    rw [show front ++ ([120, 1] ++ t ++ q ++ back) = (front ++ [120, 1] ++ t) ++ (q ++ back) by simp only [List.append_assoc]]
    rw [show front.length + 2 + t.length = (front ++ [120, 1] ++ t).length by simp only [List.length_append, List.length_cons, List.length_nil], List.drop_left, List.take_left' hq]
  unfold ZlM.read
  rw [hi, hl, Int.toNat_natCast, hg0, hg1]
  dsimp only
  rw [hd, if_neg (by omega), if_neg (by omega), if_neg (by decide), if_neg (by omega), if_neg (by omega)]
  by_cases he : q = bigB 4 (adler s)
  · rw [if_neg (fun hh => hh he), if_pos he]
  · rw [if_pos he, if_neg he]
end Go.Proofs.YtcnpekohkbjnnaaGreatDoor

/- Formulas of 3 Go functions of this seat (written by a program of the author's, vcgen.py), and that each is enough for the call. No condition. -/
set_option linter.unusedVariables false
namespace Go.Proofs.YtcnpekohkbjnnaaGreatDoor
open Go Vc Go.Proofs
set_option maxRecDepth 100000
/-- sums.digit -/
def vc_sums_digit (x0 : Int) (w : World) (R : Value → World → Prop) : Prop :=
  ∃ I1 : Bool → World → Prop, ((((decide (x0 ≥ 48) = true →
      I1 (decide (x0 ≤ 57)) w)) ∧
    (decide (x0 ≥ 48) = false →
      I1 false w)) ∧
   ∀ b2 : Bool,
   ∀ w3 : World,
   (I1 b2 w3 →
     (((b2 = true →
        R (Value.int IntKind.i64 (IntKind.wrap IntKind.i64 (IntKind.wrap IntKind.u8 (x0 - 48)))) w3)) ∧
      (b2 = false →
        (((decide (x0 ≥ 97) = true →
           (((decide (x0 ≤ 102) = true →
              R (Value.int IntKind.i64 (IntKind.wrap IntKind.i64 (IntKind.wrap IntKind.i64 (IntKind.wrap IntKind.u8 (x0 - 97)) + 10))) w3)) ∧
            (decide (x0 ≤ 102) = false →
              R (Value.int IntKind.i64 (-1)) w3)))) ∧
         (decide (x0 ≥ 97) = false →
           R (Value.int IntKind.i64 (-1)) w3))))))
theorem vc_sums_digit_ok {x0 : Int} {w : World} {R : Value → World → Prop} {R' : Ending → World → Prop} (h : vc_sums_digit x0 w R) (hR : ∀ v w', R v w' → R' (.returned v) w') :
    Calls Tryz.prog 102 #[.int .u8 x0] w R' :=
  calls_of_body (vs := [(.int .u8 x0, false)]) (ty := ty) (ann := ⟨[(2, [(3, .bool)])], [], [], []⟩) (c := Tryz.f102.body.getD .skip) (by kernel_rfl) Tryz.func102 (by kernel_rfl) (by kernel_rfl) (Eq.mp (by kernel_rfl) h) hR
/-- sums.Unhex -/
def vc_sums_Unhex (x0 : ByteArray) (w : World) (R : Value → World → Prop) : Prop :=
  ∃ I1 : Sl → Int → World → Prop, ∃ I2 : Sl → Int → World → Nat, (I1 (Sl.mk none 0 0) 0 w ∧
   ∀ l3 : Sl,
   ∀ n4 : Int,
   ∀ w5 : World,
   (I1 l3 n4 w5 →
     (((decide (IntKind.wrap IntKind.i64 (n4 + 1) < (↑(ByteArray.size x0) : Int)) = true →
        ∀ w6 : World,
        (Drew w5 w6 →
          ∃ I7 : World → Prop, (I7 w6 ∧
           ((0 ≤ n4 ∧
             n4 < (↑(ByteArray.size x0) : Int)) ∧
            ((0 ≤ IntKind.wrap IntKind.i64 (n4 + 1) ∧
              IntKind.wrap IntKind.i64 (n4 + 1) < (↑(ByteArray.size x0) : Int)) ∧
             Calls Tryz.prog (102 : Nat) (Array.mk [Value.int IntKind.u8 (byteAt x0 n4)]) (w6) (fun e8 w9 =>
               ∃ n10 : Int, (e8 = Ending.returned (Value.int IntKind.i64 n10) ∧
                (I7 w9 ∧
                 Calls Tryz.prog (102 : Nat) (Array.mk [Value.int IntKind.u8 (byteAt x0 (IntKind.wrap IntKind.i64 (n4 + 1)))]) (w9) (fun e11 w12 =>
                   ∃ n13 : Int, (e11 = Ending.returned (Value.int IntKind.i64 n13) ∧
                    (I7 w12 ∧
                     (((decide (n10 < 0) = true →
                        R (Value.tuple (Array.mk [Value.string (ByteArray.mk (Array.mk [])), Value.bool false])) w12)) ∧
                      (decide (n10 < 0) = false →
                        (((decide (n13 < 0) = true →
                           R (Value.tuple (Array.mk [Value.string (ByteArray.mk (Array.mk [])), Value.bool false])) w12)) ∧
                         (decide (n13 < 0) = false →
                           ((0 : Int) ≤ (4 : Int) ∧
                            ∀ w14 : World,
                            (w14 = World.alloc w12 (Obj.cells (Array.mk [Value.int IntKind.u8 (IntKind.wrap IntKind.u8 (IntKind.wrap IntKind.i64 (↑(BitVec.toNat (BitVec.ofInt 64 (IntKind.wrap IntKind.i64 (n10 * 2 ^ min (Int.toNat 4) 64)) ||| BitVec.ofInt 64 n13)) : Int)))]) 5) →
                              ∃ w15 : World, ∃ l16 : Sl, (Sem.run Tryz.prog (Builtin.append_ (Array.mk [43, 43]) 43 (Array.mk [Value.slice l3.1 l3.2 l3.3, Value.slice (some (Addr.mk (Array.size (World.heap w12)) 0 none)) 1 1])) w14 = Result.ok (Value.slice l16.1 l16.2 l16.3) w15 ∧
                               (I1 (Sl.mk l16.1 l16.2 l16.3) (IntKind.wrap IntKind.i64 (n4 + 2)) w15 ∧
                                I2 (Sl.mk l16.1 l16.2 l16.3) (IntKind.wrap IntKind.i64 (n4 + 2)) w15 < I2 l3 n4 w5)))))))))))))))))))) ∧
      (decide (IntKind.wrap IntKind.i64 (n4 + 1) < (↑(ByteArray.size x0) : Int)) = false →
        ((2 : Int) ≠ (0 : Int) ∧
         ((((Int.tmod (↑(ByteArray.size x0) : Int) 2 != 0) = true →
            R (Value.tuple (Array.mk [Value.string (ByteArray.mk (Array.mk [])), Value.bool false])) w5)) ∧
          ((Int.tmod (↑(ByteArray.size x0) : Int) 2 != 0) = false →
            ∃ w17 : World, ∃ s18 : ByteArray, (Sem.run Tryz.prog (convert 43 9 (Value.slice l3.1 l3.2 l3.3)) w5 = Result.ok (Value.string s18) w17 ∧
             R (Value.tuple (Array.mk [Value.string s18, Value.bool true])) w17))))))))
theorem vc_sums_Unhex_ok {x0 : ByteArray} {w : World} {R : Value → World → Prop} {R' : Ending → World → Prop} (h : vc_sums_Unhex x0 w R) (hR : ∀ v w', R v w' → R' (.returned v) w') :
    Calls Tryz.prog 59 #[.string x0] w R' :=
  calls_of_body (vs := [(.string x0, false)]) (ty := ty) (ann := ⟨[], [(3, [(4, .slice), (5, .int .i64)])], [(5, .held [(0, true), (1, true), (2, true), (4, true), (5, true), (6, true), (7, true), (3, false), (8, false), (9, true), (10, true)])], []⟩) (c := Tryz.f59.body.getD .skip) (by kernel_rfl) Tryz.func59 (by kernel_rfl) (by kernel_rfl) (Eq.mp (by kernel_rfl) h) hR
/-- sums.Id -/
def vc_sums_Id (x0 : ByteArray) (w : World) (R : Value → World → Prop) : Prop :=
  Calls Tryz.prog (59 : Nat) (Array.mk [Value.string x0]) (w) (fun e1 w2 =>
    ∃ s3 : ByteArray, ∃ b4 : Bool, (e1 = Ending.returned (Value.tuple (Array.mk [Value.string s3, Value.bool b4])) ∧
     (((b4 = true →
        R (Value.bool ((↑(ByteArray.size x0) : Int) == 40)) w2)) ∧
      (b4 = false →
        R (Value.bool false) w2))))
theorem vc_sums_Id_ok {x0 : ByteArray} {w : World} {R : Value → World → Prop} {R' : Ending → World → Prop} (h : vc_sums_Id x0 w R) (hR : ∀ v w', R v w' → R' (.returned v) w') :
    Calls Tryz.prog 35 #[.string x0] w R' :=
  calls_of_body (vs := [(.string x0, false)]) (ty := ty) (ann := ⟨[], [], [], []⟩) (c := Tryz.f35.body.getD .skip) (by kernel_rfl) Tryz.func35 (by kernel_rfl) (by kernel_rfl) (Eq.mp (by kernel_rfl) h) hR
end Go.Proofs.YtcnpekohkbjnnaaGreatDoor

/- Unhex and Id. Conditions: as named. -/
set_option linter.unusedVariables false
namespace Go.Proofs.YtcnpekohkbjnnaaGreatDoor
open Go Vc HexM Go.Proofs

theorem digit_spec (c : Nat) (hc : c < 256) (w : World) : Calls Tryz.prog F_sums_digit #[.int .u8 (c : Int)] w fun e w' => e = .returned (.int .i64 (match dg c with | some n => (n : Int) | none => -1)) ∧ w' = w := by
  refine vc_sums_digit_ok (R := fun v w' => v = .int .i64 (match dg c with | some n => (n : Int) | none => -1) ∧ w' = w) ?_ (fun v w' h => ⟨by rw [h.1], h.2⟩)
  refine ⟨fun b w' => b = decide (48 ≤ c ∧ c ≤ 57) ∧ w' = w, ⟨fun h => ⟨?_, rfl⟩, fun h => ⟨?_, rfl⟩⟩, ?_⟩
  · have h := of_decide_eq_true h
    exact decide_eq_decide.2 ⟨fun _ => ⟨by omega, by omega⟩, fun _ => by omega⟩
  · have h := of_decide_eq_false h
    rw [decide_eq_false (by omega)]
  · rintro b w3 ⟨rfl, rfl⟩
    unfold dg
    refine ⟨fun h => ?_, fun h => ⟨fun h2 => ⟨fun h3 => ?_, fun h3 => ?_⟩, fun h2 => ?_⟩⟩
    · have h := of_decide_eq_true h
      rw [if_pos h, wrap_u8 (by omega) (by omega), wrap_i64 (by omega) (by omega)]
      exact ⟨by congr 1; simp only; omega, rfl⟩
    · have h := of_decide_eq_false h
      have h2 := of_decide_eq_true h2
      have h3 := of_decide_eq_true h3
      rw [if_neg h, if_pos (by omega), wrap_u8 (by omega) (by omega), wrap_i64 (x := (c : Int) - 97) (by omega) (by omega), wrap_i64 (by omega) (by omega)]
      exact ⟨by congr 1; simp only; omega, rfl⟩
    · have h := of_decide_eq_false h
      have h3 := of_decide_eq_false h3
      rw [if_neg h, if_neg (by omega)]
      exact ⟨rfl, rfl⟩
    · have h := of_decide_eq_false h
      have h2 := of_decide_eq_false h2
      rw [if_neg h, if_neg (by omega)]
      exact ⟨rfl, rfl⟩
def unhexS (s : ByteArray) : ByteArray := match unhexL s.data.toList with | some l => ⟨l.toArray⟩ | none => ⟨#[]⟩
/-- 'Unhex'. -/
theorem unhex_spec (s : ByteArray) (hs : s.size ≤ 140737488355328) (w : World) : Calls Tryz.prog F_sums_Unhex #[.string s] w fun e w' => e = .returned (.tuple #[.string (unhexS s), .bool (unhexL s.data.toList).isSome]) ∧ Fr (fun _ => False) w w' := by
  refine vc_sums_Unhex_ok (R := fun v w' => v = .tuple #[.string (unhexS s), .bool (unhexL s.data.toList).isSome] ∧ Fr (fun _ => False) w w') ?_ (fun v w' h => ⟨by rw [h.1], h.2⟩)
  have hbad : ∀ {w' : World} {k : Nat}, k < s.size → dg (byt s k) = none → Fr (fun _ => False) w w' → (Value.tuple #[.string ⟨#[]⟩, .bool false] = .tuple #[.string (unhexS s), .bool (unhexL s.data.toList).isSome] ∧ Fr (fun _ => False) w w') := fun {w' k} hk hd hf => by
    have := unhexL_bad k s.data.toList _ (bs_get hk) (by rw [toNat_of _ (byt_lt _ _)]; exact hd)
    unfold unhexS
    rw [this]
    exact ⟨rfl, hf⟩
  refine ⟨fun l n w' => ∃ k r, n = ((2 * k : Nat) : Int) ∧ 2 * k ≤ s.size ∧ unhexL (s.data.toList.take (2 * k)) = some r ∧ Vc.Own w' w.heap.size T_uint8 l (byteV r) ∧ Fr (fun _ => False) w w', fun _ n _ => s.size - n.toNat, ⟨0, [], rfl, Nat.zero_le _, rfl, .nil _ _ _, .refl _ _⟩, ?_⟩
  rintro l3 n w5 ⟨k, r, rfl, hk, hr, ho, hf⟩
  have e1 : IntKind.i64.wrap (((2 * k : Nat) : Int) + 1) = ((2 * k + 1 : Nat) : Int) := by rw [wrap_i64 (by omega) (by omega)]; omega
  have e2 : IntKind.i64.wrap (((2 * k : Nat) : Int) + 2) = ((2 * (k + 1) : Nat) : Int) := by rw [wrap_i64 (by omega) (by omega)]; omega
  rw [e1, e2]
  have hrl : r.length = k := by
    have := unhexL_len _ _ hr
    rw [List.length_take, bs_len] at this; omega
  refine ⟨fun hlt w6 d6 => ?_, fun hge => ?_⟩
  · have hlt := of_decide_eq_true hlt
    rw [byteAt_nat, byteAt_nat]
    have hf6 : Fr (fun _ => False) w w6 := hf.trans' (.drew _ d6)
    refine ⟨fun _ => True, trivial, ⟨by omega, by omega⟩, ⟨by omega, by omega⟩, (digit_spec _ (byt_lt _ _) w6).mono ?_⟩
    rintro e w9 ⟨rfl, hw⟩
    replace hw := hw.symm
    subst hw
    refine ⟨_, rfl, trivial, (digit_spec _ (byt_lt _ _) w6).mono ?_⟩
    rintro e w12 ⟨rfl, hw⟩
    replace hw := hw.symm
    subst hw
    refine ⟨_, rfl, trivial, fun h => ?_, fun h => ⟨fun h2 => ?_, fun h2 => ⟨by decide, fun w14 h14 => ?_⟩⟩⟩
    · have h := of_decide_eq_true h
      cases hd : dg (byt s (2 * k)) with
      | none => exact hbad (k := 2 * k) (by omega) hd hf6
      | some x => rw [hd] at h; simp only at h; omega
    · have h2 := of_decide_eq_true h2
      cases hd : dg (byt s (2 * k + 1)) with
      | none => exact hbad (k := 2 * k + 1) (by omega) hd hf6
      | some x => rw [hd] at h2; simp only at h2; omega
    · have h := of_decide_eq_false h
      have h2 := of_decide_eq_false h2
      cases hd : dg (byt s (2 * k)) with
      | none => rw [hd] at h; simp at h
      | some x =>
        cases hd2 : dg (byt s (2 * k + 1)) with
        | none => rw [hd2] at h2; simp at h2
        | some y =>
          have hx1 := dg_lt hd
          have hy1 := dg_lt hd2
          have hor : 2 ^ 4 * x ||| y = 2 ^ 4 * x + y := (Nat.two_pow_add_eq_or_of_lt hy1 _).symm
          have ev : IntKind.u8.wrap (IntKind.i64.wrap (((BitVec.ofInt 64 (IntKind.i64.wrap ((x : Int) * 2 ^ min (Int.toNat 4) 64)) ||| BitVec.ofInt 64 (y : Int)).toNat : Nat) : Int)) = ((16 * x + y : Nat) : Int) := by
            rw [show (x : Int) * 2 ^ min (Int.toNat 4) 64 = ((2 ^ 4 * x : Nat) : Int) by rw [show (2 : Int) ^ min (Int.toNat 4) 64 = ((2 ^ 4 : Nat) : Int) from rfl, ← Int.natCast_mul, Nat.mul_comm], wrap_i64 (x := ((2 ^ 4 * x : Nat) : Int)) (by omega) (by omega), or_nat 64 _ _ (by omega) (by omega), hor, wrap_i64 (by omega) (by omega), wrap_u8 (by omega) (by omega)]
          rw [hd, hd2] at h14
          simp only at h14
          rw [ev] at h14
          obtain ⟨w15, l16, hr15, ho15, hf15, _⟩ := append_one' elByteH (ho.drew d6) (v := .int .u8 ((16 * x + y : Nat) : Int)) rfl (by rw [bv_len, hrl]; unfold maxLen; omega) (by rw [bv_len, hrl]; omega) hf6.size h14
          have ht := unhexL_take k s.data.toList r hr (by rw [bs_len]; omega) _ _ (bs_get (by omega)) (bs_get (by omega))
          rw [toNat_of _ (byt_lt _ _), toNat_of _ (byt_lt _ _), hd, hd2] at ht
          refine ⟨w15, l16, hr15, ⟨k + 1, _, rfl, by omega, ht, ?_, ?_⟩, by dsimp only; omega⟩
          · rw [← bv_snoc _ _ (by omega)]; exact ho15
          · exact hf6.trans hf15 fun q hq ⟨y, hy, e⟩ => by
              have := (ho.blk hy).1; omega
  · have hge := of_decide_eq_false hge
    have hm : Int.tmod (s.size : Int) 2 = ((s.size % 2 : Nat) : Int) := by rw [show (2 : Int) = ((2 : Nat) : Int) from rfl, Int.ofNat_tmod]
    rw [hm]
    refine ⟨by decide, fun h => ?_, fun h => ?_⟩
    · have h : ((s.size % 2 : Nat) : Int) ≠ 0 := by simpa using h
      have := unhexL_iff s.data.toList
      rw [bs_len, show (s.size % 2 == 0) = false by rw [beq_eq_false_iff_ne]; omega, Bool.and_false] at this
      have hn : unhexL s.data.toList = none := by simpa using this
      unfold unhexS
      rw [hn]
      exact ⟨rfl, hf⟩
    · have h : ((s.size % 2 : Nat) : Int) = 0 := by simpa using h
      have hks : 2 * k = s.size := by omega
      rw [hks, bs_all] at hr
      refine ⟨_, _, bytes_str (e := T_uint8) (by kernel_rfl) (by kernel_rfl) (by kernel_rfl) l3.cap ho.reads (by rw [ho.len, bv_len]), ?_, hf⟩
      unfold unhexS
      rw [hr]; rfl
/-- 'Id'. -/
theorem id_spec (s : ByteArray) (hs : s.size ≤ 140737488355328) (w : World) : Calls Tryz.prog F_sums_Id #[.string s] w fun e w' => e = .returned (.bool (isId s.data.toList)) ∧ Fr (fun _ => False) w w' := by
  refine vc_sums_Id_ok (R := fun v w' => v = .bool (isId s.data.toList) ∧ Fr (fun _ => False) w w') ?_ (fun v w' h => ⟨by rw [h.1], h.2⟩)
  refine (unhex_spec s hs w).mono ?_
  rintro e w2 ⟨rfl, hf⟩
  refine ⟨_, _, rfl, fun h => ⟨?_, hf⟩, fun h => ⟨?_, hf⟩⟩
  · unfold isId
    rw [h, Bool.true_and, bs_len]
    congr 1
    rw [Bool.eq_iff_iff, beq_iff_eq, beq_iff_eq]; omega
  · unfold isId; rw [h]; rfl
end Go.Proofs.YtcnpekohkbjnnaaGreatDoor

/- Formulas of 4 Go functions of this seat (written by a program of the author's, vcgen.py), and that each is enough for the call. No condition. -/
set_option linter.unusedVariables false
namespace Go.Proofs.YtcnpekohkbjnnaaGreatDoor
open Go Vc Go.Proofs
set_option maxRecDepth 100000
/-- loose.Path -/
def vc_loose_Path (x0 : ByteArray) (w : World) (R : Value → World → Prop) : Prop :=
  Calls Tryz.prog (35 : Nat) (Array.mk [Value.string x0]) (w) (fun e1 w2 =>
    ∃ b3 : Bool, (e1 = Ending.returned (Value.bool b3) ∧
     ((((!b3) = true →
        R (Value.tuple (Array.mk [Value.string (ByteArray.mk (Array.mk [])), Value.int IntKind.i64 4])) w2)) ∧
      ((!b3) = false →
        (((0 : Int) ≤ (2 : Int) ∧
          2 ≤ (↑(ByteArray.size x0) : Int)) ∧
         (ByteArray.size (ByteArray.mk (Array.mk [111, 98, 106, 101, 99, 116, 115, 47])) + ByteArray.size (ByteArray.extract x0 0 (Int.toNat 2)) ≤ 9223372036854775807 ∧
          (ByteArray.size (ByteArray.mk (Array.mk [111, 98, 106, 101, 99, 116, 115, 47]) ++ ByteArray.extract x0 0 (Int.toNat 2)) + ByteArray.size (ByteArray.mk (Array.mk [47])) ≤ 9223372036854775807 ∧
           (((0 : Int) ≤ (2 : Int) ∧
             2 ≤ (↑(ByteArray.size x0) : Int)) ∧
            (ByteArray.size (ByteArray.mk (Array.mk [111, 98, 106, 101, 99, 116, 115, 47]) ++ ByteArray.extract x0 0 (Int.toNat 2) ++ ByteArray.mk (Array.mk [47])) + ByteArray.size (ByteArray.extract x0 (Int.toNat 2) (ByteArray.size x0)) ≤ 9223372036854775807 ∧
             ∀ w4 : World,
             (Drew w2 w4 →
               R (Value.tuple (Array.mk [Value.string (ByteArray.mk (Array.mk [111, 98, 106, 101, 99, 116, 115, 47]) ++ ByteArray.extract x0 0 (Int.toNat 2) ++ ByteArray.mk (Array.mk [47]) ++ ByteArray.extract x0 (Int.toNat 2) (ByteArray.size x0)), Value.int IntKind.i64 0])) w4))))))))))
theorem vc_loose_Path_ok {x0 : ByteArray} {w : World} {R : Value → World → Prop} {R' : Ending → World → Prop} (h : vc_loose_Path x0 w R) (hR : ∀ v w', R v w' → R' (.returned v) w') :
    Calls Tryz.prog 16 #[.string x0] w R' :=
  calls_of_body (vs := [(.string x0, false)]) (ty := ty) (ann := ⟨[], [], [(3, .quiet)], []⟩) (c := Tryz.f16.body.getD .skip) (by kernel_rfl) Tryz.func16 (by kernel_rfl) (by kernel_rfl) (Eq.mp (by kernel_rfl) h) hR
/-- loose.Unpack -/
def vc_loose_Unpack (x0 : ByteArray) (w : World) (R : Value → World → Prop) : Prop :=
  ∀ w1 : World,
  (w1 = World.alloc w (Obj.cells (Array.mk [Value.int IntKind.i64 0, Value.string (ByteArray.mk (Array.mk []))]) 30) →
    Calls Tryz.prog (52 : Nat) (Array.mk [Value.string x0, Value.int IntKind.i64 0, Value.int IntKind.i64 65536]) (w1) (fun e2 w3 =>
      ∃ s4 : ByteArray, ∃ n5 : Int, ∃ n6 : Int, (e2 = Ending.returned (Value.tuple (Array.mk [Value.string s4, Value.int IntKind.i64 n5, Value.int IntKind.i64 n6])) ∧
       ((((n6 != 0) = true →
          ∃ w7 : World, (Sem.run Tryz.prog (storeVar 30 (Addr.mk (Array.size (World.heap w)) 0 none) (Value.agg (Array.mk [Value.int IntKind.i64 0, Value.string (ByteArray.mk (Array.mk []))]))) w3 = Result.ok PUnit.unit w7 ∧
           ∃ n8 : Int, ∃ s9 : ByteArray, (Sem.run Tryz.prog (loadVar 30 (Addr.mk (Array.size (World.heap w)) 0 none)) w7 = Result.ok (Value.agg (Array.mk [Value.int IntKind.i64 n8, Value.string s9])) w7 ∧
            R (Value.tuple (Array.mk [Value.agg (Array.mk [Value.int IntKind.i64 n8, Value.string s9]), Value.int IntKind.i64 n6])) w7)))) ∧
        ((n6 != 0) = false →
          ((((n5 != (↑(ByteArray.size x0) : Int)) = true →
             ∃ w10 : World, (Sem.run Tryz.prog (storeVar 30 (Addr.mk (Array.size (World.heap w)) 0 none) (Value.agg (Array.mk [Value.int IntKind.i64 0, Value.string (ByteArray.mk (Array.mk []))]))) w3 = Result.ok PUnit.unit w10 ∧
              ∃ n11 : Int, ∃ s12 : ByteArray, (Sem.run Tryz.prog (loadVar 30 (Addr.mk (Array.size (World.heap w)) 0 none)) w10 = Result.ok (Value.agg (Array.mk [Value.int IntKind.i64 n11, Value.string s12])) w10 ∧
               R (Value.tuple (Array.mk [Value.agg (Array.mk [Value.int IntKind.i64 n11, Value.string s12]), Value.int IntKind.i64 3])) w10)))) ∧
           ((n5 != (↑(ByteArray.size x0) : Int)) = false →
             Calls Tryz.prog (53 : Nat) (Array.mk [Value.string s4]) (w3) (fun e13 w14 =>
               ∃ n15 : Int, ∃ s16 : ByteArray, ∃ n17 : Int, (e13 = Ending.returned (Value.tuple (Array.mk [Value.agg (Array.mk [Value.int IntKind.i64 n15, Value.string s16]), Value.int IntKind.i64 n17])) ∧
                ∃ w18 : World, (Sem.run Tryz.prog (storeVar 30 (Addr.mk (Array.size (World.heap w)) 0 none) (Value.agg (Array.mk [Value.int IntKind.i64 n15, Value.string s16]))) w14 = Result.ok PUnit.unit w18 ∧
                 ∃ n19 : Int, ∃ s20 : ByteArray, (Sem.run Tryz.prog (loadVar 30 (Addr.mk (Array.size (World.heap w)) 0 none)) w18 = Result.ok (Value.agg (Array.mk [Value.int IntKind.i64 n19, Value.string s20])) w18 ∧
                  R (Value.tuple (Array.mk [Value.agg (Array.mk [Value.int IntKind.i64 n19, Value.string s20]), Value.int IntKind.i64 n17])) w18)))))))))))
theorem vc_loose_Unpack_ok {x0 : ByteArray} {w : World} {R : Value → World → Prop} {R' : Ending → World → Prop} (h : vc_loose_Unpack x0 w R) (hR : ∀ v w', R v w' → R' (.returned v) w') :
    Calls Tryz.prog 25 #[.string x0] w R' :=
  calls_of_body (vs := [(.string x0, false)]) (ty := ty) (ann := ⟨[], [], [], []⟩) (c := Tryz.f25.body.getD .skip) (by kernel_rfl) Tryz.func25 (by kernel_rfl) (by kernel_rfl) (Eq.mp (by kernel_rfl) h) hR
/-- loose.Read -/
def vc_loose_Read (x0 : Nat) (x1 : ByteArray) (w : World) (R : Value → World → Prop) : Prop :=
  ∀ w1 : World,
  (w1 = World.alloc w (Obj.cells (Array.mk [Value.int IntKind.i64 0, Value.string (ByteArray.mk (Array.mk []))]) 30) →
    Calls Tryz.prog (16 : Nat) (Array.mk [Value.string x1]) (w1) (fun e2 w3 =>
      ∃ s4 : ByteArray, ∃ n5 : Int, (e2 = Ending.returned (Value.tuple (Array.mk [Value.string s4, Value.int IntKind.i64 n5])) ∧
       ((((n5 != 0) = true →
          ∃ w6 : World, (Sem.run Tryz.prog (storeVar 30 (Addr.mk (Array.size (World.heap w)) 0 none) (Value.agg (Array.mk [Value.int IntKind.i64 0, Value.string (ByteArray.mk (Array.mk []))]))) w3 = Result.ok PUnit.unit w6 ∧
           ∃ n7 : Int, ∃ s8 : ByteArray, (Sem.run Tryz.prog (loadVar 30 (Addr.mk (Array.size (World.heap w)) 0 none)) w6 = Result.ok (Value.agg (Array.mk [Value.int IntKind.i64 n7, Value.string s8])) w6 ∧
            R (Value.tuple (Array.mk [Value.agg (Array.mk [Value.int IntKind.i64 n7, Value.string s8]), Value.int IntKind.i64 n5])) w6)))) ∧
        ((n5 != 0) = false →
          Calls Tryz.prog (24 : Nat) (Array.mk [Value.pointer (some (Addr.mk x0 0 none)), Value.string s4]) (w3) (fun e9 w10 =>
            ∃ s11 : ByteArray, ∃ n12 : Int, (e9 = Ending.returned (Value.tuple (Array.mk [Value.string s11, Value.int IntKind.i64 n12])) ∧
             ((((n12 != 0) = true →
                ∃ w13 : World, (Sem.run Tryz.prog (storeVar 30 (Addr.mk (Array.size (World.heap w)) 0 none) (Value.agg (Array.mk [Value.int IntKind.i64 0, Value.string (ByteArray.mk (Array.mk []))]))) w10 = Result.ok PUnit.unit w13 ∧
                 ∃ n14 : Int, ∃ s15 : ByteArray, (Sem.run Tryz.prog (loadVar 30 (Addr.mk (Array.size (World.heap w)) 0 none)) w13 = Result.ok (Value.agg (Array.mk [Value.int IntKind.i64 n14, Value.string s15])) w13 ∧
                  R (Value.tuple (Array.mk [Value.agg (Array.mk [Value.int IntKind.i64 n14, Value.string s15]), Value.int IntKind.i64 n12])) w13)))) ∧
              ((n12 != 0) = false →
                Calls Tryz.prog (25 : Nat) (Array.mk [Value.string s11]) (w10) (fun e16 w17 =>
                  ∃ n18 : Int, ∃ s19 : ByteArray, ∃ n20 : Int, (e16 = Ending.returned (Value.tuple (Array.mk [Value.agg (Array.mk [Value.int IntKind.i64 n18, Value.string s19]), Value.int IntKind.i64 n20])) ∧
                   ∀ w21 : World,
                   (w21 = World.alloc w17 (Obj.cells (Array.mk [Value.int IntKind.i64 0, Value.string (ByteArray.mk (Array.mk []))]) 30) →
                     ∃ w22 : World, (Sem.run Tryz.prog (storeVar 30 (Addr.mk (Array.size (World.heap w17)) 0 none) (Value.agg (Array.mk [Value.int IntKind.i64 n18, Value.string s19]))) w21 = Result.ok PUnit.unit w22 ∧
                      ((((n20 != 0) = true →
                         ∃ w23 : World, (Sem.run Tryz.prog (storeVar 30 (Addr.mk (Array.size (World.heap w)) 0 none) (Value.agg (Array.mk [Value.int IntKind.i64 0, Value.string (ByteArray.mk (Array.mk []))]))) w22 = Result.ok PUnit.unit w23 ∧
                          ∃ n24 : Int, ∃ s25 : ByteArray, (Sem.run Tryz.prog (loadVar 30 (Addr.mk (Array.size (World.heap w)) 0 none)) w23 = Result.ok (Value.agg (Array.mk [Value.int IntKind.i64 n24, Value.string s25])) w23 ∧
                           R (Value.tuple (Array.mk [Value.agg (Array.mk [Value.int IntKind.i64 n24, Value.string s25]), Value.int IntKind.i64 n20])) w23)))) ∧
                       ((n20 != 0) = false →
                         ∃ n26 : Int, ∃ s27 : ByteArray, (Sem.run Tryz.prog (loadVar 30 (Addr.mk (Array.size (World.heap w17)) 0 none)) w22 = Result.ok (Value.agg (Array.mk [Value.int IntKind.i64 n26, Value.string s27])) w22 ∧
                          Calls Tryz.prog (10 : Nat) (Array.mk [Value.agg (Array.mk [Value.int IntKind.i64 n26, Value.string s27])]) (w22) (fun e28 w29 =>
                            ∃ s30 : ByteArray, ∃ n31 : Int, (e28 = Ending.returned (Value.tuple (Array.mk [Value.string s30, Value.int IntKind.i64 n31])) ∧
                             ((((!ByteArray.toList s30 == ByteArray.toList x1) = true →
                                ∃ w32 : World, (Sem.run Tryz.prog (storeVar 30 (Addr.mk (Array.size (World.heap w)) 0 none) (Value.agg (Array.mk [Value.int IntKind.i64 0, Value.string (ByteArray.mk (Array.mk []))]))) w29 = Result.ok PUnit.unit w32 ∧
                                 ∃ n33 : Int, ∃ s34 : ByteArray, (Sem.run Tryz.prog (loadVar 30 (Addr.mk (Array.size (World.heap w)) 0 none)) w32 = Result.ok (Value.agg (Array.mk [Value.int IntKind.i64 n33, Value.string s34])) w32 ∧
                                  R (Value.tuple (Array.mk [Value.agg (Array.mk [Value.int IntKind.i64 n33, Value.string s34]), Value.int IntKind.i64 5])) w32)))) ∧
                              ((!ByteArray.toList s30 == ByteArray.toList x1) = false →
                                ∃ n35 : Int, ∃ s36 : ByteArray, (Sem.run Tryz.prog (loadVar 30 (Addr.mk (Array.size (World.heap w17)) 0 none)) w29 = Result.ok (Value.agg (Array.mk [Value.int IntKind.i64 n35, Value.string s36])) w29 ∧
                                 ∃ w37 : World, (Sem.run Tryz.prog (storeVar 30 (Addr.mk (Array.size (World.heap w)) 0 none) (Value.agg (Array.mk [Value.int IntKind.i64 n35, Value.string s36]))) w29 = Result.ok PUnit.unit w37 ∧
                                  ∃ n38 : Int, ∃ s39 : ByteArray, (Sem.run Tryz.prog (loadVar 30 (Addr.mk (Array.size (World.heap w)) 0 none)) w37 = Result.ok (Value.agg (Array.mk [Value.int IntKind.i64 n38, Value.string s39])) w37 ∧
                                   R (Value.tuple (Array.mk [Value.agg (Array.mk [Value.int IntKind.i64 n38, Value.string s39]), Value.int IntKind.i64 0])) w37)))))))))))))))))))))))
theorem vc_loose_Read_ok {x0 : Nat} {x1 : ByteArray} {w : World} {R : Value → World → Prop} {R' : Ending → World → Prop} (h : vc_loose_Read x0 x1 w R) (hR : ∀ v w', R v w' → R' (.returned v) w') :
    Calls Tryz.prog 9 #[.pointer (some ⟨x0, 0, none⟩), .string x1] w R' :=
  calls_of_body (vs := [(.pointer (some ⟨x0, 0, none⟩), true), (.string x1, false)]) (ty := ty) (ann := ⟨[], [], [], []⟩) (c := Tryz.f9.body.getD .skip) (by kernel_rfl) Tryz.func9 (by kernel_rfl) (by kernel_rfl) (Eq.mp (by kernel_rfl) h) hR
/-- loose.Write -/
def vc_loose_Write (x0_0 : Int) (x0_1 : ByteArray) (w : World) (R : Value → World → Prop) : Prop :=
  ∀ w1 : World,
  (w1 = World.alloc w (Obj.cells (Array.mk [Value.int IntKind.i64 x0_0, Value.string x0_1]) 30) →
    ∀ w2 : World,
    (w2 = World.alloc w1 (Obj.cells (Array.mk [Value.string (ByteArray.mk (Array.mk [])), Value.string (ByteArray.mk (Array.mk []))]) 25) →
      ∃ n3 : Int, ∃ s4 : ByteArray, (Sem.run Tryz.prog (loadVar 30 (Addr.mk (Array.size (World.heap w)) 0 none)) w2 = Result.ok (Value.agg (Array.mk [Value.int IntKind.i64 n3, Value.string s4])) w2 ∧
       Calls Tryz.prog (15 : Nat) (Array.mk [Value.agg (Array.mk [Value.int IntKind.i64 n3, Value.string s4])]) (w2) (fun e5 w6 =>
         ∃ s7 : ByteArray, ∃ n8 : Int, (e5 = Ending.returned (Value.tuple (Array.mk [Value.string s7, Value.int IntKind.i64 n8])) ∧
          ((((n8 != 0) = true →
             ∃ w9 : World, (Sem.run Tryz.prog (storeVar 25 (Addr.mk (Array.size (World.heap w1)) 0 none) (Value.agg (Array.mk [Value.string (ByteArray.mk (Array.mk [])), Value.string (ByteArray.mk (Array.mk []))]))) w6 = Result.ok PUnit.unit w9 ∧
              ∃ s10 : ByteArray, ∃ s11 : ByteArray, (Sem.run Tryz.prog (loadVar 25 (Addr.mk (Array.size (World.heap w1)) 0 none)) w9 = Result.ok (Value.agg (Array.mk [Value.string s10, Value.string s11])) w9 ∧
               R (Value.tuple (Array.mk [Value.agg (Array.mk [Value.string s10, Value.string s11]), Value.int IntKind.i64 n8])) w9)))) ∧
           ((n8 != 0) = false →
             ∃ n12 : Int, ∃ s13 : ByteArray, (Sem.run Tryz.prog (loadVar 30 (Addr.mk (Array.size (World.heap w)) 0 none)) w6 = Result.ok (Value.agg (Array.mk [Value.int IntKind.i64 n12, Value.string s13])) w6 ∧
              Calls Tryz.prog (10 : Nat) (Array.mk [Value.agg (Array.mk [Value.int IntKind.i64 n12, Value.string s13])]) (w6) (fun e14 w15 =>
                ∃ s16 : ByteArray, ∃ n17 : Int, (e14 = Ending.returned (Value.tuple (Array.mk [Value.string s16, Value.int IntKind.i64 n17])) ∧
                 Calls Tryz.prog (16 : Nat) (Array.mk [Value.string s16]) (w15) (fun e18 w19 =>
                   ∃ s20 : ByteArray, ∃ n21 : Int, (e18 = Ending.returned (Value.tuple (Array.mk [Value.string s20, Value.int IntKind.i64 n21])) ∧
                    Calls Tryz.prog (17 : Nat) (Array.mk [Value.string s7]) (w19) (fun e22 w23 =>
                      ∃ s24 : ByteArray, (e22 = Ending.returned (Value.string s24) ∧
                       ∃ w25 : World, (Sem.run Tryz.prog (storeVar 25 (Addr.mk (Array.size (World.heap w1)) 0 none) (Value.agg (Array.mk [Value.string s20, Value.string s24]))) w23 = Result.ok PUnit.unit w25 ∧
                        ∃ s26 : ByteArray, ∃ s27 : ByteArray, (Sem.run Tryz.prog (loadVar 25 (Addr.mk (Array.size (World.heap w1)) 0 none)) w25 = Result.ok (Value.agg (Array.mk [Value.string s26, Value.string s27])) w25 ∧
                         R (Value.tuple (Array.mk [Value.agg (Array.mk [Value.string s26, Value.string s27]), Value.int IntKind.i64 0])) w25))))))))))))))))
theorem vc_loose_Write_ok {x0_0 : Int} {x0_1 : ByteArray} {w : World} {R : Value → World → Prop} {R' : Ending → World → Prop} (h : vc_loose_Write x0_0 x0_1 w R) (hR : ∀ v w', R v w' → R' (.returned v) w') :
    Calls Tryz.prog 6 #[.agg #[.int .i64 x0_0, .string x0_1]] w R' :=
  calls_of_body (vs := [(.agg #[.int .i64 x0_0, .string x0_1], false)]) (ty := ty) (ann := ⟨[], [], [], []⟩) (c := Tryz.f6.body.getD .skip) (by kernel_rfl) Tryz.func6 (by kernel_rfl) (by kernel_rfl) (Eq.mp (by kernel_rfl) h) hR
end Go.Proofs.YtcnpekohkbjnnaaGreatDoor

/- The package loose on an object of at most 65000 bytes: Path, Write, Unpack, Read. Conditions: as named. -/
set_option linter.unusedVariables false
namespace Go.Proofs.YtcnpekohkbjnnaaGreatDoor
open Go Vc HexM ShaM SumM Go.Proofs

theorem boxF_store {w : World} {g : Nat} {cs : Array Value} (h : w.heap[g]? = some (.cells cs T_api_File (0, 0))) (hc : cs.size = 2) (p d : ByteArray) :
    ∃ w', (storeVar T_api_File ⟨g, 0, none⟩ (.agg #[.string p, .string d])).run Tryz.prog w = .ok () w' ∧ w'.heap[g]? = some (.cells #[.string p, .string d] T_api_File (0, 0)) ∧ Fr (· = g) w w' :=
  ⟨_, run_storeVar_row (P := Tryz.prog) w g T_api_File T_api_File _ #[.string p, .string d] h (by kernel_rfl) (by rw [hc]; rfl) (by simp [Value.oneCell']), setRow_heap w g _ #[.string p, .string d] T_api_File (0, 0) h, setRow_fr (· = g) w g _ rfl⟩
theorem boxF_load {w : World} {g : Nat} {p d : ByteArray} (h : w.heap[g]? = some (.cells #[.string p, .string d] T_api_File (0, 0))) : (loadVar T_api_File ⟨g, 0, none⟩).run Tryz.prog w = .ok (.agg #[.string p, .string d]) w :=
  load_agg (vs := [.string p, .string d]) (agg_of (by kernel_rfl)) (by kernel_rfl) fun k v hv => by rw [add_lit, Nat.zero_add, cell_blk h]; simpa using hv
theorem lpath_spec (id : ByteArray) (h : isId id.data.toList = true) (w : World) : Calls Tryz.prog F_loose_Path #[.string id] w fun e w' => e = .returned (.tuple #[.string (pathO id), .int .i64 0]) ∧ Fr (fun _ => False) w w' := by
  refine vc_loose_Path_ok (R := fun v w' => v = .tuple #[.string (pathO id), .int .i64 0] ∧ Fr (fun _ => False) w w') ?_ (fun v w' h => ⟨by rw [h.1], h.2⟩)
  have h40 := (isId_parts h).1
  have hsz : ∀ i j, (id.extract i j).size ≤ 40 := fun i j => by rw [ByteArray.size_extract]; omega
  refine (id_spec id (by omega) w).mono ?_
  rintro e w2 ⟨rfl, f2⟩
  rw [h]
  refine ⟨_, rfl, fun hb => (by cases hb), fun _ => ⟨⟨by omega, by omega⟩, ?_, ?_, ⟨by omega, by omega⟩, ?_, fun w4 d4 => ⟨rfl, f2.trans' (.drew _ d4)⟩⟩⟩
  · exact Nat.le_trans (Nat.add_le_add (Nat.le_of_eq (rfl : _ = 8)) (hsz _ _)) (by decide)
  · rw [ByteArray.size_append]
    exact Nat.le_trans (Nat.add_le_add (Nat.add_le_add (Nat.le_of_eq (rfl : _ = 8)) (hsz _ _)) (Nat.le_of_eq (rfl : _ = 1))) (by decide)
  · rw [ByteArray.size_append, ByteArray.size_append]
    exact Nat.le_trans (Nat.add_le_add (Nat.add_le_add (Nat.add_le_add (Nat.le_of_eq (rfl : _ = 8)) (hsz _ _)) (Nat.le_of_eq (rfl : _ = 1))) (hsz _ _)) (by decide)
theorem idO (k : Int) (d : ByteArray) : isId (idS k d).data.toList = true := by
  unfold idS
  rw [bs_mk]
  exact isId_hex (dig1_len _)
/-- An object's file. -/
noncomputable def fileO (k : Int) (d : ByteArray) : ByteArray := ⟨(frameS (deflT (encS k d)) (encS k d).data.toList).toArray⟩
/-- What is known of the stream in it. -/
def FileOK (k : Int) (d : ByteArray) : Prop := DefM.Stream (deflT (encS k d)) (encS k d).data.toList ∧ (deflT (encS k d)).length ≤ 2 * (encS k d).size + 5
theorem fileO_len (k : Int) (d : ByteArray) : (fileO k d).size = (deflT (encS k d)).length + 6 := by
  unfold fileO frameS
  rw [bs_mksize, List.length_append, List.length_append, bigB_length]
  simp only [List.length_cons, List.length_nil]
  omega
theorem fileO_size {k : Int} (hk : isKind k) {d : ByteArray} (hd : d.size ≤ 65000) (h : FileOK k d) : (fileO k d).size ≤ 130100 := by
  have h1 := encS_size hk hd
  have h2 := h.2
  rw [fileO_len]; omega
theorem fileO_read {k : Int} (hk : isKind k) {d : ByteArray} (hd : d.size ≤ 65000) (h : FileOK k d) : ZlM.read (fileO k d).data.toList 0 65536 = ((encS k d).data.toList, (deflT (encS k d)).length + 6, 0) := by
  have h1 := encS_size hk hd
  have := zread_stream (front := []) (back := []) (q := bigB 4 (adler (encS k d).data.toList)) h.1 (most := 65536) (by rw [bs_len]; omega) (Nat.le_refl _) (bigB_length _ _)
  rw [if_pos rfl] at this
  unfold fileO frameS
  rw [bs_mk]
  simpa using this
theorem lwrite_spec (k : Int) (hk : isKind k) (d : ByteArray) (hd : d.size ≤ 65000) {w : World} (ht : Tab10 w) : Calls Tryz.prog F_loose_Write #[.agg #[.int .i64 k, .string d]] w fun e w' =>
    e = .returned (.tuple #[.agg #[.string (pathO (idS k d)), .string (fileO k d)], .int .i64 0]) ∧ FileOK k d ∧ Fr (fun _ => False) w w' := by
  refine vc_loose_Write_ok (x0_0 := k) (x0_1 := d) (R := fun v w' => v = .tuple #[.agg #[.string (pathO (idS k d)), .string (fileO k d)], .int .i64 0] ∧ FileOK k d ∧ Fr (fun _ => False) w w') ?_ (fun v w' h => ⟨by rw [h.1], h.2⟩)
  intro w1 h1 w2 h2
  have f1 : Fr (fun _ => False) w w1 := by rw [h1]; exact .alloc _ _ _
  have f2 : Fr (fun _ => False) w1 w2 := by rw [h2]; exact .alloc _ _ _
  have hO2 : w2.heap[w.heap.size]? = some (.cells #[.int .i64 k, .string d] T_api_Object (0, 0)) := f2.keep (by rw [h1]; exact alloc_new _ _) (by simp)
  have hF2 : w2.heap[w1.heap.size]? = some (.cells #[.string ⟨#[]⟩, .string ⟨#[]⟩] T_api_File (0, 0)) := by rw [h2]; exact alloc_new _ _
  have hs1 : w.heap.size < w1.heap.size := by rw [h1]; simp
  clear h1 h2
  have g2 := f1.trans' f2
  refine ⟨k, d, boxO_load hO2, (oencode_spec k d hd (ht.keep g2)).mono ?_⟩
  rintro e w6 ⟨⟨_, rfl⟩ | ⟨hno, rfl⟩, f6⟩
  rotate_left
  · exact absurd hk hno
  have g6 := g2.trans' f6
  refine ⟨_, _, rfl, fun h => (by cases h), fun _ => ⟨k, d, boxO_load (f6.keep hO2 (by simp)), (oid_spec k d hd (ht.keep g6)).mono ?_⟩⟩
  rintro e w15 ⟨⟨_, rfl⟩ | ⟨hno, rfl⟩, f15⟩
  rotate_left
  · exact absurd hk hno
  refine ⟨_, _, rfl, (lpath_spec _ (idO k d) w15).mono ?_⟩
  rintro e w19 ⟨rfl, f19⟩
  have hes := encS_size hk hd
  refine ⟨_, _, rfl, (zwrite_spec (encS k d) (by omega) w19).mono ?_⟩
  rintro e w23 ⟨rfl, hst, hlen, f23⟩
  have f2_23 := ((f6.trans' f15).trans' f19).trans' f23
  obtain ⟨w25, hr25, hb25, f25⟩ := boxF_store (f2_23.keep hF2 (by simp)) rfl (pathO (idS k d)) (fileO k d)
  exact ⟨_, rfl, w25, hr25, _, _, boxF_load hb25, rfl, ⟨hst, hlen⟩, (g2.trans' f2_23).trans f25 fun q hq e => by omega⟩
theorem lunpack_spec {k : Int} (hk : isKind k) {d : ByteArray} (hd : d.size ≤ 65000) (h : FileOK k d) {w : World} (ht : Tab10 w) : Calls Tryz.prog F_loose_Unpack #[.string (fileO k d)] w fun e w' =>
    e = .returned (.tuple #[.agg #[.int .i64 k, .string d], .int .i64 0]) ∧ Fr (fun _ => False) w w' := by
  refine vc_loose_Unpack_ok (R := fun v w' => v = .tuple #[.agg #[.int .i64 k, .string d], .int .i64 0] ∧ Fr (fun _ => False) w w') ?_ (fun v w' h => ⟨by rw [h.1], h.2⟩)
  intro w1 h1
  have f1 : Fr (fun _ => False) w w1 := by rw [h1]; exact .alloc _ _ _
  have hO1 : w1.heap[w.heap.size]? = some (.cells #[.int .i64 0, .string ⟨#[]⟩] T_api_Object (0, 0)) := by rw [h1]; exact alloc_new _ _
  clear h1
  have hfs := fileO_size hk hd h
  refine (zread_spec (fileO k d) (by omega) 0 65536 w1).mono ?_
  rintro e w3 ⟨rfl, _, f3⟩
  rw [fileO_read hk hd h]
  refine ⟨_, _, _, rfl, fun h => (by cases h), fun _ => ⟨fun hne => ?_, fun _ => ?_⟩⟩
  · rw [fileO_len] at hne
    simp at hne
  · have g3 := f1.trans' f3
    dsimp only
    rw [bs_self]
    refine (odecode_spec k hk d hd (ht.keep g3)).mono ?_
    rintro e w14 ⟨rfl, f14⟩
    obtain ⟨w18, hr18, hb18, f18⟩ := boxO_store ((f3.trans' f14).keep hO1 (by simp)) rfl k d
    exact ⟨_, _, _, rfl, w18, hr18, _, _, boxO_load hb18, rfl, (g3.trans' f14).trans f18 fun q hq e => by omega⟩
theorem lread_spec {k : Int} (hk : isKind k) {d : ByteArray} (hd : d.size ≤ 65000) (h : FileOK k d) {w : World} (ht : Tab10 w) {b : Nat} {l : Sl} {ys : List FileE} {size : Int} (hS : IsSnap w b l ys size) (hr : Rising ys)
    (hg : getE ys (pathO (idS k d)) = (fileO k d, 0)) : Calls Tryz.prog F_loose_Read #[.pointer (some ⟨b, 0, none⟩), .string (idS k d)] w fun e w' =>
    e = .returned (.tuple #[.agg #[.int .i64 k, .string d], .int .i64 0]) ∧ Fr (fun _ => False) w w' := by
  refine vc_loose_Read_ok (R := fun v w' => v = .tuple #[.agg #[.int .i64 k, .string d], .int .i64 0] ∧ Fr (fun _ => False) w w') ?_ (fun v w' h => ⟨by rw [h.1], h.2⟩)
  intro w1 h1
  have f1 : Fr (fun _ => False) w w1 := by rw [h1]; exact .alloc _ _ _
  have hO1 : w1.heap[w.heap.size]? = some (.cells #[.int .i64 0, .string ⟨#[]⟩] T_api_Object (0, 0)) := by rw [h1]; exact alloc_new _ _
  clear h1
  refine (lpath_spec _ (idO k d) w1).mono ?_
  rintro e w3 ⟨rfl, f3⟩
  refine ⟨_, _, rfl, fun h => (by cases h), fun _ => (get_spec (hS.keep (f1.trans' f3)) hr (pathO (idS k d))).mono ?_⟩
  rintro e w10 ⟨rfl, f10⟩
  rw [hg]
  have g10 := (f1.trans' f3).trans' f10
  refine ⟨_, _, rfl, fun h => (by cases h), fun _ => (lunpack_spec hk hd h (ht.keep g10)).mono ?_⟩
  rintro e w17 ⟨rfl, f17⟩
  refine ⟨_, _, _, rfl, fun w21 h21 => ?_⟩
  have f21 : Fr (fun _ => False) w17 w21 := by rw [h21]; exact .alloc _ _ _
  have hP21 : w21.heap[w17.heap.size]? = some (.cells #[.int .i64 0, .string ⟨#[]⟩] T_api_Object (0, 0)) := by rw [h21]; exact alloc_new _ _
  clear h21
  obtain ⟨w22, hr22, hb22, f22⟩ := boxO_store hP21 rfl k d
  have hs17 := ((f3.trans' f10).trans' f17).size
  have hlt1 := lt_blk hO1
  have g22 : Fr (fun _ => False) w w22 := ((g10.trans' f17).trans' f21).trans f22 fun q hq e => by have := (g10.trans' f17).size; omega
  have hO22 : w22.heap[w.heap.size]? = some (.cells #[.int .i64 0, .string ⟨#[]⟩] T_api_Object (0, 0)) := f22.keep ((((f3.trans' f10).trans' f17).trans' f21).keep hO1 (by simp)) (by omega)
  refine ⟨w22, hr22, fun h => (by cases h), fun _ => ⟨_, _, boxO_load hb22, (oid_spec k d hd (ht.keep g22)).mono ?_⟩⟩
  rintro e w29 ⟨⟨_, rfl⟩ | ⟨hno, rfl⟩, f29⟩
  rotate_left
  · exact absurd hk hno
  refine ⟨_, _, rfl, fun hne => ?_, fun _ => ⟨_, _, boxO_load (f29.keep hb22 (by simp)), ?_⟩⟩
  · simp at hne
  · obtain ⟨w37, hr37, hb37, f37⟩ := boxO_store (f29.keep hO22 (by simp)) rfl k d
    exact ⟨w37, hr37, _, _, boxO_load hb37, rfl, (g22.trans' f29).trans f37 fun q hq e => by omega⟩
end Go.Proofs.YtcnpekohkbjnnaaGreatDoor

/- strings.Replace of the one slash in an object's place: its name. No program in sight. -/
set_option linter.unusedVariables false
namespace Go.Proofs.YtcnpekohkbjnnaaGreatDoor
open Go Vc HexM Go.Proofs

theorem unslash {a b : UInt8} {r : List UInt8} (ha : a ≠ 47) (hb : b ≠ 47) : Lib.replace (a :: b :: 47 :: r) [47] [] 1 = a :: b :: r := by
  have e1 : ([47] : List UInt8).isPrefixOf (a :: b :: 47 :: r) = false := by simp [List.isPrefixOf, ha.symm]
  have e2 : ([47] : List UInt8).isPrefixOf (b :: 47 :: r) = false := by simp [List.isPrefixOf, hb.symm]
  have e3 : ([47] : List UInt8).isPrefixOf (47 :: r) = true := by simp [List.isPrefixOf]
  have hi : Lib.index (a :: b :: 47 :: r) [47] = ((2 : Nat) : Int) := by
    rw [Lib.index, e1, Lib.index, e2, Lib.index, e3]; rfl
  have hm : (Lib.index (a :: b :: 47 :: r) [47] == -1) = false := by rw [hi]; rfl
  have hc : Lib.count (a :: b :: 47 :: r) [47] ≠ 0 := by
    unfold Lib.count
    rw [Lib.countFrom, hm, if_neg (by decide)]; omega
  have hn : Lib.replaceNum (a :: b :: 47 :: r) [47] 1 = 1 := by
    unfold Lib.replaceNum
    rw [if_neg (by omega)]; rfl
  unfold Lib.replace
  rw [if_neg (by decide), hn, Lib.replaceK_hit _ _ 0 _ 2 hi]; rfl
theorem unslash_id {id : ByteArray} (h : isId id.data.toList = true) : Lib.replace ((pathO id).data.toList.drop 8) [47] [] 1 = id.data.toList := by
  obtain ⟨h40, hm⟩ := isId_parts h
  have hl40 : id.data.toList.length = 40 := by rw [bs_len]; exact h40
  rw [pathO_list]
  match hc : id.data.toList, hl40 with
  | x :: y :: r, _ =>
    rw [hc] at hm
    have n47 : ∀ c ∈ x :: y :: r, c ≠ 47 := fun c hc e => by
      have := hm c hc
      rw [e] at this
      exact absurd this (by decide)
    exact unslash (n47 x List.mem_cons_self) (n47 y (List.mem_cons_of_mem _ List.mem_cons_self))
end Go.Proofs.YtcnpekohkbjnnaaGreatDoor

/- The frame of a row that lists laid tables, the world's shape kept. No condition. -/
set_option linter.unusedVariables false
namespace Go.Proofs.YtcnpekohkbjnnaaGreatDoor
open Go Vc Go.Proofs
variable {H : Type} {enc : TypeId × Value → H}

theorem handed_shaped {a : Assume} {C : Checked} {os : Os} {f : FuncId} {fn : Func} {s : ChangeSpec} {conds : List PathCond} {apart fresh handsOn again : Bool} {X : World → Array Value → Prop}
    (hX : ∀ (w w' : World) (args : Array Value), w.heap = w'.heap → X w args → X w' args)
    (own : ownKnob C.prog.godebug = none) (started : os.Started) (noInit : C.prog.inits.idxOf? f = none) (hfn : C.prog.funcs[f]? = some fn)
    (witness : ∃ (w : World) (tape : Tape) (i : Input), w.os = os ∧ (w.forCall tape i).Shaped C.prog ∧ i.vars = [] ∧ Input.okWide C.prog (w.forCall tape i) .any w.heap.size f i ∧
      ((s.pre enc C.prog fn conds apart (w.forCall tape i).memory i.args ∧ X (w.forCall tape i).memory i.args) ∧ sizedMet enc C.prog fn (OpenSpec.ofChange s) apart (w.forCall tape i).memory i.args) ∧ a.holds C.prog (lone (Frame.enter C.prog f i.args .normal) [] (w.forCall tape i)))
    (contract : ∀ (W : World) (base : Nat) (args : Array Value) (ds gs : List (DataW H)) (before : List MemPlace),
      (∀ (j : Nat) t v, fn.params[j]? = some t → args[j]? = some v → Value.okWide C.prog W .any base t v) →
      DataW.Whole enc C.prog fn.params.toList s.vars apart W args.toList ds gs before →
      conds.all (PathCond.test C.prog ⟨fn.params.toList, ds, s.plain.varTypes C.prog, gs⟩) = true →
      (DataW.weightsEach C.prog (fn.params.toList ++ s.plain.varTypes C.prog) (ds ++ gs)).all (· ≤ reachBytes) = true → X W args → W.ShapedOpen C.prog →
      a.holds C.prog (lone (Frame.enter C.prog f args .normal) [] W) →
      Calls C.prog f args W fun e W' => ∃ v, e = .returned v ∧ s.post enc C.prog fn apart fresh handsOn again W args v W') :
    ReturnsInHanded a C os f .any (fun w args => (s.pre enc C.prog fn conds apart w args ∧ X w args) ∧ sizedMet enc C.prog fn (OpenSpec.ofChange s) apart w args) (s.post enc C.prog fn apart fresh handsOn again) := by
  refine returnsInHanded_of_calls own started noInit witness ?_
  intro w tape i _ hsh _ hok hpre hholds
  obtain ⟨_, _, _, fn', hfn', _, _, _, _, hval⟩ := hok
  have e : fn' = fn := Option.some.inj (hfn'.symm.trans hfn)
  subst e
  obtain ⟨⟨⟨ds, gs, before, hw, hc⟩, hx⟩, hz⟩ := hpre
  have hw' := DataW.Whole.of_heap (w' := w.forCall tape i) (by rfl) hw
  refine (contract (w.forCall tape i) w.heap.size i.args ds gs before hval hw' hc (hz.weights hw) (hX _ _ _ (by rfl) hx) hsh hholds).mono fun e W' ⟨v, he, hp⟩ => ?_
  subst he
  exact ChangeSpec.post_blind hp
/-- The library's own variable holds some number. -/
def MaxL (w : World) : Prop := ∃ m : Int, w.cell? ⟨G_bytealg_MaxLen, 0, none⟩ = some (.int .i64 m)
theorem MaxL.keep {w w' : World} (h : MaxL w) (hf : Fr (fun _ => False) w w') : MaxL w' := by
  obtain ⟨m, hm⟩ := h
  exact ⟨m, hf.cell hm (by simp)⟩
theorem maxL_of {W : World} (h : W.ShapedOpen Tryz.prog) : MaxL W :=
  cell_of_shapedOpen_int (t := T_int) (zero := #[.int .i64 0]) h (of_decide_eq_true (by kernel_rfl)) (by kernel_rfl) rfl (by kernel_rfl) (by kernel_rfl) (by kernel_rfl)
end Go.Proofs.YtcnpekohkbjnnaaGreatDoor

/- Structures of the kit over its shelf, at this seat (written by a program of the author's, laysn.py). No condition. -/
namespace Go.Proofs.YtcnpekohkbjnnaaGreatDoor
open Go Go.Shelf Go.Proofs
def lays154_ren : Go.Shelf.Ren := ⟨fun | 138 => 46 | 143 => 48 | 154 => 23 | 165 => 47 | 166 => 49 | 169 => 51 | 195 => 85 | 197 => 50 | 217 => 118 | 218 => 86 | 219 => 89 | 224 => 120 | 225 => 119 | 240 => 87 | 241 => 88 | 260 => 90 | 266 => 135 | 267 => 121 | 276 => 116 | 277 => 117 | 314 => 136 | n => n, fun | 0 => 0 | 105 => 89 | 119 => 162 | 127 => 129 | 138 => 164 | 139 => 165 | 146 => 183 | 164 => 159 | 20 => 20 | 21 => 21 | 3 => 3 | 37 => 43 | 4 => 4 | 46 => 69 | 5 => 5 | 51 => 104 | 70 => 81 | 72 => 83 | 75 => 86 | 76 => 87 | 80 => 91 | 9 => 9 | n => n, fun | 1 => 0 | 3 => 1 | 4 => 2 | n => n⟩
theorem lays154 : Go.Proofs.Lays.n154 Tryz.prog lays154_ren := {
  mixed := by kernel_rfl,
  f138 := Tryz.func46.trans (congrArg some (by kernel_rfl)),
  f143 := Tryz.func48.trans (congrArg some (by kernel_rfl)),
  f154 := Tryz.func23.trans (congrArg some (by kernel_rfl)),
  f165 := Tryz.func47.trans (congrArg some (by kernel_rfl)),
  f166 := Tryz.func49.trans (congrArg some (by kernel_rfl)),
  f169 := Tryz.func51.trans (congrArg some (by kernel_rfl)),
  f195 := Tryz.func85.trans (congrArg some (by kernel_rfl)),
  f197 := Tryz.func50.trans (congrArg some (by kernel_rfl)),
  f217 := Tryz.func118.trans (congrArg some (by kernel_rfl)),
  f218 := Tryz.func86.trans (congrArg some (by kernel_rfl)),
  f219 := Tryz.func89.trans (congrArg some (by kernel_rfl)),
  f224 := Tryz.func120.trans (congrArg some (by kernel_rfl)),
  f225 := Tryz.func119.trans (congrArg some (by kernel_rfl)),
  f240 := Tryz.func87.trans (congrArg some (by kernel_rfl)),
  f241 := Tryz.func88.trans (congrArg some (by kernel_rfl)),
  f260 := Tryz.func90.trans (congrArg some (by kernel_rfl)),
  f266 := Tryz.func135.trans (congrArg some (by kernel_rfl)),
  f267 := Tryz.func121.trans (congrArg some (by kernel_rfl)),
  f276 := Tryz.func116.trans (congrArg some (by kernel_rfl)),
  f277 := Tryz.func117.trans (congrArg some (by kernel_rfl)),
  f314 := Tryz.func136.trans (congrArg some (by kernel_rfl)),
  t0 := Tryz.underlying0,
  a0 := Tryz.isAgg0,
  z0 := Tryz.sizeOf0,
  v0 := Tryz.zeroValue0,
  t3 := Tryz.underlying3,
  a3 := Tryz.isAgg3,
  z3 := Tryz.sizeOf3,
  v3 := Tryz.zeroValue3,
  t4 := Tryz.underlying4,
  a4 := Tryz.isAgg4,
  z4 := Tryz.sizeOf4,
  v4 := Tryz.zeroValue4,
  t5 := Tryz.underlying5,
  a5 := Tryz.isAgg5,
  z5 := Tryz.sizeOf5,
  v5 := Tryz.zeroValue5,
  t9 := Tryz.underlying9,
  a9 := Tryz.isAgg9,
  z9 := Tryz.sizeOf9,
  v9 := Tryz.zeroValue9,
  t20 := Tryz.underlying20,
  a20 := Tryz.isAgg20,
  z20 := Tryz.sizeOf20,
  v20 := Tryz.zeroValue20,
  t21 := Tryz.underlying21,
  a21 := Tryz.isAgg21,
  z21 := Tryz.sizeOf21,
  v21 := Tryz.zeroValue21,
  t37 := Tryz.underlying43,
  a37 := Tryz.isAgg43,
  z37 := Tryz.sizeOf43,
  v37 := Tryz.zeroValue43,
  t46 := Tryz.underlying69,
  a46 := Tryz.isAgg69,
  z46 := Tryz.sizeOf69,
  v46 := Tryz.zeroValue69,
  t51 := Tryz.underlying104,
  a51 := Tryz.isAgg104,
  z51 := Tryz.sizeOf104,
  v51 := Tryz.zeroValue104,
  t70 := Tryz.underlying81,
  a70 := Tryz.isAgg81,
  z70 := Tryz.sizeOf81,
  v70 := Tryz.zeroValue81,
  t72 := Tryz.underlying83,
  a72 := Tryz.isAgg83,
  z72 := Tryz.sizeOf83,
  v72 := Tryz.zeroValue83,
  t75 := Tryz.underlying86,
  a75 := Tryz.isAgg86,
  z75 := Tryz.sizeOf86,
  v75 := Tryz.zeroValue86,
  t76 := Tryz.underlying87,
  a76 := Tryz.isAgg87,
  z76 := Tryz.sizeOf87,
  v76 := Tryz.zeroValue87,
  t105 := Tryz.underlying89,
  a105 := Tryz.isAgg89,
  z105 := Tryz.sizeOf89,
  v105 := Tryz.zeroValue89,
  t119 := Tryz.underlying162,
  a119 := Tryz.isAgg162,
  z119 := Tryz.sizeOf162,
  t127 := Tryz.underlying129,
  a127 := Tryz.isAgg129,
  z127 := Tryz.sizeOf129,
  v127 := Tryz.zeroValue129,
  t138 := Tryz.underlying164,
  a138 := Tryz.isAgg164,
  z138 := Tryz.sizeOf164,
  v138 := Tryz.zeroValue164,
  t139 := Tryz.underlying165,
  a139 := Tryz.isAgg165,
  z139 := Tryz.sizeOf165,
  v139 := Tryz.zeroValue165,
  t146 := Tryz.underlying183,
  a146 := Tryz.isAgg183,
  z146 := Tryz.sizeOf183,
  v146 := Tryz.zeroValue183,
  t164 := Tryz.underlying159,
  a164 := Tryz.isAgg159,
  z164 := Tryz.sizeOf159,
  v164 := Tryz.zeroValue159,
  g1 := by kernel_rfl,
  g3 := by kernel_rfl,
  g4 := by kernel_rfl }
theorem builderX154 : Go.Proofs.Builder.Extra Tryz.prog lays154_ren := {
  sizeBuilder := by kernel_rfl,
  liesBuilder := by kernel_rfl,
  t5 := Tryz.underlying5,
  a5 := Tryz.isAgg5,
  z5 := Tryz.sizeOf5,
  v5 := Tryz.zeroValue5,
  infoByte := by kernel_rfl,
  cellsByte := by kernel_rfl,
  sizeByte := by kernel_rfl,
  neB5 := by decide }
end Go.Proofs.YtcnpekohkbjnnaaGreatDoor

/- Formulas of 1 Go functions of this seat (written by a program of the author's, vcgen.py), and that each is enough for the call. No condition. -/
set_option linter.unusedVariables false
namespace Go.Proofs.YtcnpekohkbjnnaaGreatDoor
open Go Vc Go.Proofs
set_option maxRecDepth 100000
/-- loose.List -/
def vc_loose_List (x0 : Nat) (w : World) (R : Value → World → Prop) : Prop :=
  Calls Tryz.prog (22 : Nat) (Array.mk [Value.pointer (some (Addr.mk x0 0 none)), Value.string (ByteArray.mk (Array.mk [111, 98, 106, 101, 99, 116, 115, 47]))]) (w) (fun e1 w2 =>
    ∃ l3 : Sl, (e1 = Ending.returned (Value.slice l3.1 l3.2 l3.3) ∧
     ∃ I4 : Sl → Int → World → Prop, ∃ I5 : Sl → Int → World → Nat, (I4 (Sl.mk none 0 0) 0 w2 ∧
      ∀ l6 : Sl,
      ∀ n7 : Int,
      ∀ w8 : World,
      (I4 l6 n7 w8 →
        (((decide (n7 < (↑l3.2 : Int)) = true →
           ((0 ≤ n7 ∧
             n7 < (↑l3.2 : Int)) ∧
            ∃ a9 : Addr, (l3.1 = some a9 ∧
             ∃ s10 : ByteArray, (World.cell? w8 (Addr.add a9 (Int.toNat n7 * 1)) = some (Value.string s10) ∧
              (((0 : Int) ≤ (8 : Int) ∧
                8 ≤ (↑(ByteArray.size s10) : Int)) ∧
               Calls Tryz.prog (23 : Nat) (Array.mk [Value.string (ByteArray.extract s10 (Int.toNat 8) (ByteArray.size s10)), Value.string (ByteArray.mk (Array.mk [47])), Value.string (ByteArray.mk (Array.mk [])), Value.int IntKind.i64 1]) (w8) (fun e11 w12 =>
                 ∃ s13 : ByteArray, (e11 = Ending.returned (Value.string s13) ∧
                  Calls Tryz.prog (16 : Nat) (Array.mk [Value.string s13]) (w12) (fun e14 w15 =>
                    ∃ s16 : ByteArray, ∃ n17 : Int, (e14 = Ending.returned (Value.tuple (Array.mk [Value.string s16, Value.int IntKind.i64 n17])) ∧
                     ((((n17 == 0) = true →
                        ((((ByteArray.toList s16 == ByteArray.toList s10) = true →
                           ∀ w18 : World,
                           (w18 = World.alloc w15 (Obj.cells (Array.mk [Value.string s13]) 9) →
                             ∃ w19 : World, ∃ l20 : Sl, (Sem.run Tryz.prog (Builtin.append_ (Array.mk [35, 35]) 35 (Array.mk [Value.slice l6.1 l6.2 l6.3, Value.slice (some (Addr.mk (Array.size (World.heap w15)) 0 none)) 1 1])) w18 = Result.ok (Value.slice l20.1 l20.2 l20.3) w19 ∧
                              (I4 (Sl.mk l20.1 l20.2 l20.3) (IntKind.wrap IntKind.i64 (n7 + 1)) w19 ∧
                               I5 (Sl.mk l20.1 l20.2 l20.3) (IntKind.wrap IntKind.i64 (n7 + 1)) w19 < I5 l6 n7 w8))))) ∧
                         ((ByteArray.toList s16 == ByteArray.toList s10) = false →
                           (I4 (Sl.mk l6.1 l6.2 l6.3) (IntKind.wrap IntKind.i64 (n7 + 1)) w15 ∧
                            I5 (Sl.mk l6.1 l6.2 l6.3) (IntKind.wrap IntKind.i64 (n7 + 1)) w15 < I5 l6 n7 w8))))) ∧
                      ((n17 == 0) = false →
                        (I4 (Sl.mk l6.1 l6.2 l6.3) (IntKind.wrap IntKind.i64 (n7 + 1)) w15 ∧
                         I5 (Sl.mk l6.1 l6.2 l6.3) (IntKind.wrap IntKind.i64 (n7 + 1)) w15 < I5 l6 n7 w8))))))))))))) ∧
         (decide (n7 < (↑l3.2 : Int)) = false →
           R (Value.slice l6.1 l6.2 l6.3) w8))))))
theorem vc_loose_List_ok {x0 : Nat} {w : World} {R : Value → World → Prop} {R' : Ending → World → Prop} (h : vc_loose_List x0 w R) (hR : ∀ v w', R v w' → R' (.returned v) w') :
    Calls Tryz.prog 8 #[.pointer (some ⟨x0, 0, none⟩)] w R' :=
  calls_of_body (vs := [(.pointer (some ⟨x0, 0, none⟩), true)]) (ty := ty) (ann := ⟨[], [(3, [(3, .slice), (12, .int .i64)])], [], []⟩) (c := Tryz.f8.body.getD .skip) (by kernel_rfl) Tryz.func8 (by kernel_rfl) (by kernel_rfl) (Eq.mp (by kernel_rfl) h) hR
end Go.Proofs.YtcnpekohkbjnnaaGreatDoor

/- loose.List of a snap whose files are all objects. Conditions: as named. -/
set_option linter.unusedVariables false
namespace Go.Proofs.YtcnpekohkbjnnaaGreatDoor
open Go Vc HexM Go.Proofs

theorem replace_spec (s : ByteArray) (hs : s.size < 4294967281) {w : World} (hml : MaxL w) : Calls Tryz.prog F_strings_Replace #[.string s, .string ⟨#[47]⟩, .string ⟨#[]⟩, .int .i64 1] w fun e w' =>
    e = .returned (.string ⟨(Lib.replace s.data.toList [47] [] 1).toArray⟩) ∧ Fr (fun _ => False) w w' := by
  obtain ⟨m, hm⟩ := hml
  refine (Any.strings_Replace lays154 builderX154 s ⟨#[47]⟩ ⟨#[]⟩ 1 m w hs hm (by decide) (by rw [show (⟨#[]⟩ : ByteArray).size = 0 from rfl, Nat.mul_zero]; omega)).mono fun e w' ⟨h1, h2⟩ => ⟨h1, ?_⟩
  have h3 : Fr (fun k => w.heap.size ≤ k) w w' := ⟨h2.os, h2.tape, h2.output, h2.size, fun k hk hx => h2.block k (by omega)⟩
  exact h3.mono fun q hq e => by omega
theorem beg_obj (id : ByteArray) : begB (pathO id) objS = true := by
  unfold begB
  refine decide_eq_true ?_
  unfold pathO
  rw [bs_app, bs_app, bs_app, List.append_assoc, List.append_assoc]
  exact List.prefix_append _ _
theorem llist_spec {w : World} {b : Nat} {l : Sl} {ys : List FileE} {size : Int} (hS : IsSnap w b l ys size) (hr : Rising ys) {ids : List ByteArray} (hids : ys.map (·.path) = ids.map pathO) (hid : ∀ id ∈ ids, isId id.data.toList = true)
    (hl : ids.length ≤ 1000) (hml : MaxL w) : Calls Tryz.prog F_loose_List #[.pointer (some ⟨b, 0, none⟩)] w fun e w' =>
    ∃ o : Sl, e = .returned (.slice o.a o.len o.cap) ∧ Vc.Own w' w.heap.size T_string o (strV ids) ∧ Fr (fun _ => False) w w' := by
  refine vc_loose_List_ok (R := fun v w' => ∃ o : Sl, v = .slice o.a o.len o.cap ∧ Vc.Own w' w.heap.size T_string o (strV ids) ∧ Fr (fun _ => False) w w') ?_ (fun v w' ⟨o, h1, h2⟩ => ⟨o, by rw [h1], h2⟩)
  refine (under_spec hS hr objS).mono ?_
  rintro e w2 ⟨o2, rfl, own2, f2⟩
  have hun : underE ys objS = ids.map pathO := by
    unfold underE
    rw [List.filter_eq_self.2 fun y hy => ?_, hids]
    have : y.path ∈ ys.map (·.path) := List.mem_map.2 ⟨y, hy, rfl⟩
    rw [hids] at this
    obtain ⟨id, _, he⟩ := List.mem_map.1 this
    rw [← he]
    exact beg_obj id
  rw [hun] at own2
  have hl2 : o2.len = ids.length := by have := own2.len; simpa [strV] using this
  refine ⟨o2, rfl, fun l m w' => ∃ k : Nat, m = k ∧ k ≤ ids.length ∧ Vc.Own w' w2.heap.size T_string l (strV (ids.take k)) ∧ Fr (fun _ => False) w2 w', fun _ m _ => ids.length - m.toNat, ⟨0, rfl, Nat.zero_le _, Vc.Own.nil _ _ _, .refl _ _⟩, ?_⟩
  rintro l m w8 ⟨k, rfl, hk, o8, f8⟩
  refine ⟨fun hlt => ?_, fun hge => ?_⟩
  · have hlt := of_decide_eq_true hlt
    have hkl : k < ids.length := by omega
    have hik : ids[k]? = some ids[k] := List.getElem?_eq_getElem hkl
    have htk : ids.take (k + 1) = ids.take k ++ [ids[k]] := (List.take_append_getElem hkl).symm
    have hidk := hid _ (List.getElem_mem hkl)
    generalize ids[k] = id at hik htk hidk
    have h40 := (isId_parts hidk).1
    have hps := pathO_size h40
    obtain ⟨x, hx, hc⟩ := (own2.keep f8 (by simp)).reads k (.string (pathO id)) (by simp [strV, hik])
    have e1 : IntKind.i64.wrap ((k : Int) + 1) = ((k + 1 : Nat) : Int) := by rw [wrap_i64 (by omega) (by omega)]; omega
    rw [e1, Int.toNat_natCast, Nat.mul_one]
    have hml8 := hml.keep (f2.trans' f8)
    refine ⟨⟨by omega, by omega⟩, x, hx, _, hc, ⟨by decide, by omega⟩, (replace_spec _ (by rw [ByteArray.size_extract]; omega) hml8).mono ?_⟩
    rintro e w12 ⟨rfl, f12⟩
    have hrep : Lib.replace ((pathO id).extract (Int.toNat 8) (pathO id).size).data.toList [47] [] 1 = id.data.toList := by
      rw [show Int.toNat 8 = 8 from rfl, bs_tail]
      exact unslash_id hidk
    rw [hrep, bs_self]
    refine ⟨_, rfl, (lpath_spec id hidk w12).mono ?_⟩
    rintro e w15 ⟨rfl, f15⟩
    have f8_15 := f12.trans' f15
    have f15' := f8.trans' f8_15
    have o15 := o8.keep f8_15 (by simp)
    have hl8 := o8.len
    refine ⟨_, _, rfl, fun _ => ⟨fun _ w18 h18 => ?_, fun hne => ?_⟩, fun h => (by cases h)⟩
    · have hsl : (strV (ids.take k)).length ≤ 1000 := by simp only [strV, List.length_map, List.length_take]; omega
      obtain ⟨w19, l20, hr19, o19, f19, _⟩ := append_one' elString o15 (v := .string id) rfl (by unfold maxLen; omega) (by omega) f15'.size h18
      refine ⟨w19, l20, hr19, ⟨k + 1, rfl, by omega, ?_, f15'.trans f19 fun q hq ⟨y, hy, e⟩ => by have := (o8.blk hy).1; omega⟩, by dsimp only; omega⟩
      rw [htk]
      simpa [strV] using o19
    · simp at hne
  · have hge := of_decide_eq_false hge
    have : k = ids.length := by omega
    rw [this, List.take_length] at o8
    exact ⟨l, rfl, o8.mono f2.size, f2.trans' f8⟩
end Go.Proofs.YtcnpekohkbjnnaaGreatDoor

/- Deltas in plain words: numbers in groups of seven bits, copies, the parts of a delta and what they make. No program in sight. -/
set_option linter.unusedVariables false
namespace Go.Proofs.YtcnpekohkbjnnaaGreatDoor
open Go Vc Go.Proofs

/-- A number below 16384 in groups of seven bits, the lowest first. -/
def sizedL (n : Nat) : List UInt8 := if n < 128 then [UInt8.ofNat n] else [UInt8.ofNat (n % 128 + 128), UInt8.ofNat (n / 128)]
theorem sizedL_len (n : Nat) : (sizedL n).length ≤ 2 := by
  unfold sizedL
  split <;> simp
theorem sizedL_big {k : Nat} (h : 128 ≤ k) : sizedL k = [UInt8.ofNat (k % 128 + 128), UInt8.ofNat (k / 2 ^ 7)] := by
  unfold sizedL
  rw [if_neg (by omega)]
/-- The byte number i of a copy: four of its place, three of its length. -/
def cpb (o n i : Nat) : Nat := if i < 4 then o / 256 ^ i % 256 else n / 256 ^ (i - 4) % 256
theorem cpb_lt (o n i : Nat) : cpb o n i < 256 := by
  unfold cpb
  split <;> exact Nat.mod_lt _ (by decide)
/-- Whether it is said. -/
def cpd (o n i : Nat) : Nat := if cpb o n i = 0 then 0 else 1
theorem cpd_le (o n i : Nat) : cpd o n i ≤ 1 := by
  unfold cpd
  split <;> omega
def cflag (o n : Nat) : Nat → Nat
  | 0 => 0
  | i + 1 => cflag o n i + 2 ^ i * cpd o n i
theorem cflag_lt (o n : Nat) : ∀ i, cflag o n i < 2 ^ i
  | 0 => Nat.one_pos
  | i + 1 => by
    have h1 := cflag_lt o n i
    have h2 := Nat.mul_le_mul_left (2 ^ i) (cpd_le o n i)
    rw [cflag, Nat.pow_succ]; omega
theorem flag_bit (o n i : Nat) (hi : i < 7) : (128 + cflag o n 7) / 2 ^ i % 2 = cpd o n i := by
  have h0 := cpd_le o n 0
  have h1 := cpd_le o n 1
  have h2 := cpd_le o n 2
  have h3 := cpd_le o n 3
  have h4 := cpd_le o n 4
  have h5 := cpd_le o n 5
  have h6 := cpd_le o n 6
  simp only [cflag]
  match i, hi with
  | 0, _ | 1, _ | 2, _ | 3, _ | 4, _ | 5, _ | 6, _ => omega
def cpby (o n i : Nat) : List UInt8 := if cpb o n i = 0 then [] else [UInt8.ofNat (cpb o n i)]
/-- The bytes number i and on, k of them. -/
def cpbs (o n i k : Nat) : List UInt8 := (List.range' i k).flatMap (cpby o n)
theorem cpbs_cons (o n i k : Nat) : cpbs o n i (k + 1) = cpby o n i ++ cpbs o n (i + 1) k := by
  unfold cpbs
  rw [List.range'_succ, List.flatMap_cons]
theorem cpbs_snoc (o n k : Nat) : cpbs o n 0 (k + 1) = cpbs o n 0 k ++ cpby o n k := by
  unfold cpbs
  rw [List.range'_1_concat, List.flatMap_append, Nat.zero_add]; simp
theorem cpby_len (o n i : Nat) : (cpby o n i).length ≤ 1 := by
  unfold cpby
  split <;> simp
theorem cpbs_len (o n i : Nat) : ∀ k, (cpbs o n i k).length ≤ k
  | 0 => Nat.le_refl _
  | k + 1 => by
    rw [cpbs_cons, List.length_append]
    have h1 := cpby_len o n i
    have h2 := cpbs_len o n (i + 1) k
    omega
/-- Place and length as far as the bytes ahead of number i say them. -/
def coN (o i : Nat) : Nat := o % 256 ^ min i 4
def cnN (n i : Nat) : Nat := n % 256 ^ (i - 4)
theorem coN_step (o n i : Nat) (h : i < 4) : coN o (i + 1) = coN o i + cpb o n i * 2 ^ (8 * i) ∧ coN o i < 2 ^ (8 * i) ∧ cnN n (i + 1) = cnN n i := by
  unfold coN cnN cpb
  rw [if_pos h, show min (i + 1) 4 = i + 1 by omega, show min i 4 = i by omega, Nat.mod_pow_succ, Nat.pow_mul, show (2 : Nat) ^ 8 = 256 from rfl, Nat.mul_comm]
  exact ⟨rfl, Nat.mod_lt _ (Nat.pow_pos (by decide)), by rw [show i + 1 - 4 = 0 by omega, show i - 4 = 0 by omega]⟩
theorem cnN_step (o n i : Nat) (h : ¬ i < 4) : cnN n (i + 1) = cnN n i + cpb o n i * 2 ^ (8 * (i - 4)) ∧ cnN n i < 2 ^ (8 * (i - 4)) ∧ coN o (i + 1) = coN o i := by
  unfold coN cnN cpb
  rw [if_neg h, show i + 1 - 4 = i - 4 + 1 by omega, show min (i + 1) 4 = 4 by omega, show min i 4 = 4 by omega, Nat.mod_pow_succ, Nat.pow_mul, show (2 : Nat) ^ 8 = 256 from rfl, Nat.mul_comm]
  exact ⟨rfl, Nat.mod_lt _ (Nat.pow_pos (by decide)), rfl⟩
theorem cpb_le (o n i : Nat) (ho : o < 4294967296) (hn : n < 65536) : coN o 7 = o ∧ cnN n 7 = n := by
  unfold coN cnN
  exact ⟨Nat.mod_eq_of_lt ho, Nat.mod_eq_of_lt (by omega)⟩
/-- A part of a delta. -/
inductive Ins where
  | plain (p : List UInt8)
  | copy (o n : Nat)
def encD : Ins → List UInt8
  | .plain p => UInt8.ofNat p.length :: p
  | .copy o n => UInt8.ofNat (128 + cflag o n 7) :: cpbs o n 0 7
def outD (base : List UInt8) : Ins → List UInt8
  | .plain p => p
  | .copy o n => (base.drop o).take n
def okD (base : List UInt8) : Ins → Prop
  | .plain p => 1 ≤ p.length ∧ p.length ≤ 127
  | .copy o n => 4 ≤ n ∧ n < 65536 ∧ o + n ≤ base.length
/-- What makes t of its base. -/
structure IsDel (base t : List UInt8) (d : List UInt8) (is : List Ins) : Prop where
  ok : ∀ x ∈ is, okD base x
  out : is.flatMap (outD base) = t
  enc : d = sizedL base.length ++ (sizedL t.length ++ is.flatMap encD)
theorem ok_snoc {base : List UInt8} {is : List Ins} {x : Ins} (h : ∀ y ∈ is, okD base y) (hx : okD base x) : ∀ y ∈ is ++ [x], okD base y := fun y hy => by
  rcases List.mem_append.1 hy with hy | hy
  · exact h y hy
  · rw [List.mem_singleton] at hy; subst hy; exact hx
theorem flat_snoc {α β : Type} (f : α → List β) (is : List α) (x : α) : (is ++ [x]).flatMap f = is.flatMap f ++ f x := by rw [List.flatMap_append]; simp
/-- A text in plain parts of at most 127 bytes. -/
def chunks : Nat → List UInt8 → List Ins
  | 0, _ => []
  | f + 1, l => if l = [] then [] else .plain (l.take 127) :: chunks f (l.drop 127)
theorem outD_len {base : List UInt8} {x : Ins} (h : okD base x) : (outD base x).length = (match x with | .plain p => p.length | .copy _ n => n) := by
  cases x with
  | plain p => rfl
  | copy o n =>
    unfold okD at h
    unfold outD
    simp only [List.length_take, List.length_drop]
    omega
end Go.Proofs.YtcnpekohkbjnnaaGreatDoor

/- Slices of the call's own whose row may bear the run-time's mark behind its last cell, as that of a text's bytes. No condition: for all programs. -/
set_option linter.unusedVariables false
namespace Vc
open Go

/-- As 'Own', but the row may bear the mark behind its cells. -/
def OwnZ (w : World) (base : Nat) (e : TypeId) (l : Sl) (xs : List Value) : Prop :=
  xs.length = l.len ∧ ((l.a = none ∧ l.len = 0 ∧ l.cap = 0) ∨
    ∃ g cur fz, l.a = some ⟨g, 0, none⟩ ∧ base ≤ g ∧ w.heap[g]? = some (.cells cur e fz) ∧ (cur.size ≤ fz.1 ∨ fz.2 = 0) ∧ l.len ≤ l.cap ∧ l.cap ≤ maxLen ∧ cur.size = l.cap ∧ cur.toList.take l.len = xs)
section
variable {w w1 : World} {base : Nat} {e : TypeId} {l : Sl} {xs : List Value}
theorem OwnZ.of (h : Own w base e l xs) : OwnZ w base e l xs := by
  refine ⟨h.1, ?_⟩
  rcases h.2 with hn | ⟨g, cur, ha, hb, hg, hl, hm, hs, ht⟩
  · exact .inl hn
  · exact .inr ⟨g, cur, (0, 0), ha, hb, hg, .inr rfl, hl, hm, hs, ht⟩
theorem OwnZ.len (h : OwnZ w base e l xs) : l.len = xs.length := h.1.symm
theorem OwnZ.blk (h : OwnZ w base e l xs) {x : Addr} (hx : l.a = some x) : base ≤ x.block ∧ x.block < w.heap.size := by
  rcases h.2 with ⟨ha, _⟩ | ⟨g, cur, fz, ha, hb, hg, _⟩
  · rw [ha] at hx; cases hx
  · rw [ha] at hx; cases hx; exact ⟨hb, lt_blk hg⟩
theorem OwnZ.keep (h : OwnZ w base e l xs) {X : Nat → Prop} (hf : Fr X w w1) (hx : ∀ x, l.a = some x → ¬ X x.block) : OwnZ w1 base e l xs := by
  refine ⟨h.1, ?_⟩
  rcases h.2 with hn | ⟨g, cur, fz, ha, hb, hg, r⟩
  · exact .inl hn
  · exact .inr ⟨g, cur, fz, ha, hb, hf.keep hg (hx _ ha), r⟩
theorem OwnZ.cap (h : OwnZ w base e l xs) : l.len ≤ l.cap := by
  rcases h.2 with ⟨_, h2, h3⟩ | ⟨_, _, _, _, _, _, _, hl, _⟩
  · omega
  · exact hl
theorem OwnZ.reads (h : OwnZ w base e l xs) : Reads w l.a xs := fun i v hv => by
  rcases h.2 with ⟨_, h2, _⟩ | ⟨g, cur, fz, ha, hb, hg, hz, hl, hm, hs, ht⟩
  · have h1 := h.1
    rw [h2] at h1
    rw [List.length_eq_zero_iff.1 h1] at hv; simp at hv
  · refine ⟨_, ha, ?_⟩
    rw [add_lit, cell_blk hg, Nat.zero_add]
    rw [← ht, List.getElem?_take] at hv
    split at hv
    · simpa using hv
    · cases hv
theorem OwnZ.nil (w : World) (base : Nat) (e : TypeId) : OwnZ w base e ⟨none, 0, 0⟩ [] := ⟨rfl, .inl ⟨rfl, rfl, rfl⟩⟩
theorem frozen_z {b : Nat} {cs : Array Value} {t : TypeId} {fz : Nat × Nat} (h : w.heap[b]? = some (.cells cs t fz)) (hz : cs.size ≤ fz.1 ∨ fz.2 = 0) {i : Nat} (hi : i < cs.size) : w.frozen? ⟨b, i, none⟩ = false := by
  obtain ⟨lo, hi'⟩ := fz
  simp only [World.frozen?, h]
  rcases hz with hz | hz
  · have : ¬ lo ≤ i := by simp only at hz; omega
    simp [this]
  · simp only at hz; simp [hz]
/-- One element set. -/
theorem OwnZ.set (h : OwnZ w base e l xs) {i : Nat} (hi : i < xs.length) :
    ∃ x, l.a = some x ∧ w.cell? (x.add i) = some xs[i] ∧ Wr w (x.add i) ∧ ∀ v, OwnZ (w.setCell (x.add i) v) base e l (xs.set i v) ∧ Fr (At l) w (w.setCell (x.add i) v) := by
  obtain ⟨x, hx, hc⟩ := h.reads.at hi
  rcases h.2 with ⟨_, h2, _⟩ | ⟨g, cur, fz, ha, hb, hg, hz, hl, hm, hs, ht⟩
  · have := h.1; omega
  · rw [ha] at hx; cases hx
    have hil : i < cur.size := by have := h.1; omega
    refine ⟨_, ha, hc, ⟨⟨_, hc⟩, by rw [add_lit, Nat.zero_add]; exact frozen_z hg hz hil⟩, fun v => ⟨⟨by simpa using h.1, .inr ⟨g, cur.setIfInBounds i v, fz, ha, hb, ?_, by simpa using hz, hl, hm, by simpa using hs, ?_⟩⟩, .set _ _ _ ⟨_, ha, add_block _ _⟩⟩⟩
    · rw [add_lit, Nat.zero_add]; exact set_blk hg i v
    · rw [Array.toList_setIfInBounds, List.take_set, ht]
end
theorem setCells_blk (g : Nat) (e : TypeId) (fz : Nat × Nat) : ∀ (vs : List Value) (o : Nat) (cur : Array Value) (w : World), w.heap[g]? = some (.cells cur e fz) → o + vs.length ≤ cur.size →
    ∃ cur', (w.setCells g o vs).heap[g]? = some (.cells cur' e fz) ∧ cur'.size = cur.size ∧ cur'.toList.take (o + vs.length) = cur.toList.take o ++ vs
  | [], o, cur, w, h, hl => ⟨cur, h, rfl, by simp⟩
  | v :: r, o, cur, w, h, hl => by
    have h1 := set_blk h o v
    simp only [List.length_cons] at hl
    obtain ⟨cur', h2, h3, h4⟩ := setCells_blk g e fz r (o + 1) (cur.setIfInBounds o v) (w.setCell ⟨g, o, none⟩ v) h1 (by rw [Array.size_setIfInBounds]; omega)
    refine ⟨cur', h2, by simpa using h3, ?_⟩
    rw [List.length_cons, show o + (r.length + 1) = o + 1 + r.length by omega, h4, Array.toList_setIfInBounds, List.take_set]
    have ho : o < cur.toList.length := by simp; omega
    rw [List.take_succ_eq_append_getElem ho, List.set_append_right _ _ (by rw [List.length_take]; omega)]
    have : o - (cur.toList.take o).length = 0 := by rw [List.length_take]; omega
    rw [this]; simp
theorem setCells_fr (g : Nat) : ∀ (vs : List Value) (o : Nat) (w : World), Fr (· = g) w (w.setCells g o vs)
  | [], o, w => .refl _ _
  | v :: r, o, w => (Fr.set (· = g) w (a := ⟨g, o, none⟩) v rfl).trans' (setCells_fr g r (o + 1) _)
section
variable {P : Program} {t e : TypeId} {z : Value} {bytes : Nat} {w : World} {base : Nat} {l : Sl} {xs : List Value}
theorem append_z (el : El P t e z bytes) (h : OwnZ w base e l xs) (x : Addr) (c : Nat) (news : List Value) (hn : ∀ j u, news[j]? = some u → w.cell? (x.add j) = some u) (h1 : ∀ u ∈ news, u.oneCell' = true)
    (hm : xs.length + news.length ≤ maxLen) (hb : (xs.length + news.length) * bytes ≤ 140737488355328) (hbase : base ≤ w.heap.size) :
    ∃ w' l', (Builtin.append_ #[t, t] t #[.slice l.a l.len l.cap, .slice (some x) news.length c]).run P w = .ok (.slice l'.a l'.len l'.cap) w' ∧ OwnZ w' base e l' (xs ++ news) ∧ Fr (At l) w w' ∧ Since w l l' := by
  obtain ⟨i, hi, hi2⟩ := Option.map_eq_some_iff.1 el.info
  simp only [Prod.mk.injEq] at hi2
  obtain ⟨hz, hs1, hby⟩ := hi2
  have hlen := h.1
  rcases h.2 with ⟨ha, hl0, hc0⟩ | ⟨g, cur, fz, ha, hbg, hg, hzz, hl, hmx, hs, ht⟩
  · have hx : xs = [] := List.eq_nil_of_length_eq_zero (by omega)
    have ho : Own w base e l xs := ⟨hlen, .inl ⟨ha, hl0, hc0⟩⟩
    obtain ⟨w', l', hr, o', f'⟩ := append_run el ho x c news hn h1 hm hb hbase
    exact ⟨w', l', hr, .of o', f', since_run el ho x c news hn h1 hm hb hr⟩
  · have hml : maxLen ≤ 9223372036854775807 := by decide
    by_cases hroom : l.len + news.length ≤ l.cap
    · have hf := run_firstCells_some (P := P) w i.size news.length x news.length c news (by rw [hs1]; omega) hn
      have hst := run_storeCells_cells (P := P) g l.len news 0 w (fun j hj => by rw [Nat.add_zero, cell_blk hg]; simp; omega) (fun j hj => by rw [Nat.add_zero]; exact frozen_z hg hzz (by omega)) h1
      rw [Nat.add_zero] at hst
      obtain ⟨cur', k1, k2, k3⟩ := setCells_blk g e fz news l.len cur w hg (by omega)
      refine ⟨w.setCells g l.len news, ⟨l.a, l.len + news.length, l.cap⟩, ?_, ⟨by simp only [List.length_append]; omega, .inr ⟨g, cur', fz, ha, hbg, k1, by rw [k2]; exact hzz, hroom, hmx, by rw [k2]; exact hs, by simp only; rw [k3, ht]⟩⟩,
        (setCells_fr g news l.len w).mono fun k _ hk => ⟨_, ha, hk⟩, fun y hy => .inl ⟨y, hy, rfl⟩⟩
      rw [ha]
      rw [hs1] at hf
      simp [Builtin.append_, run_underlying el.sl, Go.sizeOf, typeInfo, hi, hs1, Builtin.lenOf, hroom, hf, Addr.add_lit, hst]
    · have holds : ∀ j u, xs[j]? = some u → w.cell? ((⟨g, 0, none⟩ : Addr).add j) = some u := fun j u hu => by
        obtain ⟨q, hq, hc⟩ := h.reads j u hu
        rw [ha] at hq; cases hq; exact hc
      have hr := run_append_grow (P := P) w t t e i z el.sl hi hz ⟨g, 0, none⟩ l.len l.cap xs (by rw [hs1]; omega) holds x news.length c news (by rw [hs1]; omega) hn (by omega) (by omega) (growslice_fits (by omega) (by rw [hby, ← hlen]; exact hb))
      have hge := grownCap_ge w (l.len + news.length) l.cap e
      have hcm2 : grownCap w (l.len + news.length) l.cap e ≤ maxLen := grownCap_le_maxLen w (l.len + news.length) l.cap e (by omega)
      rw [← ha] at hr
      refine ⟨_, ⟨some ⟨w.heap.size, 0, none⟩, l.len + news.length, grownCap w (l.len + news.length) l.cap e⟩, hr, ⟨by simp only [List.length_append]; omega, .inr ⟨w.heap.size, _, (0, 0), rfl, hbase, heap_alloc_new w.drew _, .inr rfl, hge, hcm2, ?_, ?_⟩⟩, ⟨rfl, rfl, rfl, by simp, fun k hk _ => alloc_old w.drew _ hk⟩, fun y hy => by cases hy; exact .inr (Nat.le_refl _)⟩
      · have := el.one
        simp only [Array.size_append, List.size_toArray, size_zeroCells, this, Nat.mul_one]
        omega
      · simp only [Array.toList_append, List.append_assoc]
        rw [← List.append_assoc]
        have : l.len + news.length = (xs ++ news).length := by rw [List.length_append]; omega
        rw [this]; exact List.take_left
theorem append_one_z (el : El P t e z bytes) (h : OwnZ w base e l xs) {v : Value} (hv : v.oneCell' = true)
    (hm : xs.length + 1 ≤ maxLen) (hb : (xs.length + 1) * bytes ≤ 140737488355328) (hbase : base ≤ w.heap.size) {w2 : World} (hw2 : w2 = w.alloc (.cells #[v] e)) :
    ∃ w' l', (Builtin.append_ #[t, t] t #[.slice l.a l.len l.cap, .slice (some ⟨w.heap.size, 0, none⟩) 1 1]).run P w2 = .ok (.slice l'.a l'.len l'.cap) w' ∧ OwnZ w' base e l' (xs ++ [v]) ∧
      Fr (At l) w w' ∧ Since w l l' := by
  subst hw2
  have h2 : OwnZ (w.alloc (.cells #[v] e)) base e l xs := h.keep (.alloc (fun _ => False) _ _) (by simp)
  obtain ⟨w', l', hr, ho, hf, hs⟩ := append_z el h2 ⟨w.heap.size, 0, none⟩ 1 [v] (fun j u hu => by
      cases j with
      | zero => simp at hu; subst hu; rw [add_lit, cell_blk (alloc_new w _)]; rfl
      | succ j => simp at hu) (by simpa using hv) (by simpa using hm) (by simpa using hb) (by simp; omega)
  refine ⟨w', l', hr, ho, (Fr.alloc _ _ _).trans' hf, fun y hy => ?_⟩
  rcases hs y hy with hx | hn
  · exact .inl hx
  · simp only [World.alloc, Array.size_push] at hn
    exact .inr (by omega)
theorem append_all_z (el : El P t e z bytes) (h : OwnZ w base e l xs) {src : Option Addr} (c : Nat) {news : List Value} (hr : Reads w src news) (h1 : ∀ u ∈ news, u.oneCell' = true)
    (hm : xs.length + news.length ≤ maxLen) (hb : (xs.length + news.length) * bytes ≤ 140737488355328) (hbase : base ≤ w.heap.size) {m : Nat} (hlen : news.length = m) :
    ∃ w' l', (Builtin.append_ #[t, t] t #[.slice l.a l.len l.cap, .slice src m c]).run P w = .ok (.slice l'.a l'.len l'.cap) w' ∧ OwnZ w' base e l' (xs ++ news) ∧
      Fr (At l) w w' ∧ Since w l l' := by
  subst hlen
  cases src with
  | some x => exact append_z el h x c news (fun j u hu => by obtain ⟨y, hy, hc⟩ := hr j u hu; cases hy; exact hc) h1 hm hb hbase
  | none =>
    have hn : news = [] := by
      cases news with
      | nil => rfl
      | cons v r => obtain ⟨y, hy, _⟩ := hr 0 v rfl; cases hy
    subst hn
    refine ⟨w, l, ?_, by simpa using h, .refl _ _, .refl _ _⟩
    obtain ⟨i, hi, hi2⟩ := Option.map_eq_some_iff.1 el.info
    have hcap := h.cap
    cases ha : l.a <;> simp [Builtin.append_, run_underlying el.sl, Go.sizeOf, typeInfo, hi, Builtin.lenOf, Builtin.firstCells, hcap, storeCells]
/-- '[]byte(s)'. -/
theorem bytes_of {src dst : TypeId} (hs : P.underlying src = some .string) (hd : P.underlying dst = some (.slice e)) (he : P.underlying e = some (.int .u8)) (s : ByteArray) (hl : s.size ≤ maxLen) (w : World) :
    ∃ w' l', (convert src dst (.string s)).run P w = .ok (.slice l'.a l'.len l'.cap) w' ∧ OwnZ w' w.heap.size e l' (byteV s.data.toList) ∧ Fr (fun _ => False) w w' := by
  have hr := run_bytes_of_string (P := P) w src dst e s hs hd he
  have hge := grownCap_ge w s.size 0 e
  have hcm2 : grownCap w s.size 0 e ≤ maxLen := grownCap_le_maxLen w s.size 0 e hl
  refine ⟨_, ⟨some ⟨w.heap.size, 0, none⟩, s.size, grownCap w s.size 0 e⟩, hr, ⟨by simp, .inr ⟨w.heap.size, _, _, rfl, Nat.le_refl _, heap_alloc_new w.drew _, .inl (Nat.le_refl _), hge, hcm2, ?_, ?_⟩⟩, ⟨rfl, rfl, rfl, by simp, fun k hk _ => alloc_old w.drew _ hk⟩⟩
  · have : s.data.size = s.size := rfl
    simp only [bytesRow, Array.size_append, Array.size_map, Array.size_replicate, this]; omega
  · have : s.size = (byteV s.data.toList).length := by simp
    simp only [bytesRow, Array.toList_append, Array.toList_map]
    rw [this]; exact List.take_left
end
end Vc

/- A slice of the call's own that begins anywhere in its row: reading it, cutting its front off, appending to it. No condition: for all programs. -/
set_option linter.unusedVariables false
namespace Vc
open Go

/-- As 'Own', but the slice may begin anywhere in its row. -/
def OwnO (w : World) (base : Nat) (e : TypeId) (l : Sl) (xs : List Value) : Prop :=
  xs.length = l.len ∧ ((l.a = none ∧ l.len = 0 ∧ l.cap = 0) ∨
    ∃ g o cur, l.a = some ⟨g, o, none⟩ ∧ base ≤ g ∧ w.heap[g]? = some (.cells cur e (0, 0)) ∧ l.len ≤ l.cap ∧ l.cap ≤ maxLen ∧ o + l.cap ≤ cur.size ∧ (cur.toList.drop o).take l.len = xs)
section
variable {w w1 : World} {base : Nat} {e : TypeId} {l : Sl} {xs : List Value}
theorem OwnO.of (h : Own w base e l xs) : OwnO w base e l xs := by
  refine ⟨h.1, ?_⟩
  rcases h.2 with hn | ⟨g, cur, ha, hb, hg, hl, hm, hs, ht⟩
  · exact .inl hn
  · exact .inr ⟨g, 0, cur, ha, hb, hg, hl, hm, by omega, by rw [List.drop_zero]; exact ht⟩
theorem OwnO.len (h : OwnO w base e l xs) : l.len = xs.length := h.1.symm
theorem OwnO.blk (h : OwnO w base e l xs) {x : Addr} (hx : l.a = some x) : base ≤ x.block ∧ x.block < w.heap.size := by
  rcases h.2 with ⟨ha, _⟩ | ⟨g, o, cur, ha, hb, hg, _⟩
  · rw [ha] at hx; cases hx
  · rw [ha] at hx; cases hx; exact ⟨hb, lt_blk hg⟩
theorem OwnO.keep (h : OwnO w base e l xs) {X : Nat → Prop} (hf : Fr X w w1) (hx : ∀ x, l.a = some x → ¬ X x.block) : OwnO w1 base e l xs := by
  refine ⟨h.1, ?_⟩
  rcases h.2 with hn | ⟨g, o, cur, ha, hb, hg, r⟩
  · exact .inl hn
  · exact .inr ⟨g, o, cur, ha, hb, hf.keep hg (hx _ ha), r⟩
theorem OwnO.reads (h : OwnO w base e l xs) : Reads w l.a xs := fun i v hv => by
  rcases h.2 with ⟨_, h2, _⟩ | ⟨g, o, cur, ha, hb, hg, hl, hm, hs, ht⟩
  · have h1 := h.1
    rw [h2] at h1
    rw [List.length_eq_zero_iff.1 h1] at hv; simp at hv
  · refine ⟨_, ha, ?_⟩
    rw [add_lit, cell_blk hg]
    rw [← ht, List.getElem?_take] at hv
    split at hv
    · rw [List.getElem?_drop] at hv
      simpa using hv
    · cases hv
theorem OwnO.sub (h : OwnO w base e l xs) {k : Nat} (hk : k ≤ l.len) : OwnO w base e ⟨subA l.a l.cap k 1, l.len - k, l.cap - k⟩ (xs.drop k) := by
  have h1 := h.1
  refine ⟨by rw [List.length_drop, h1], ?_⟩
  rcases h.2 with ⟨hn, hl, hc⟩ | ⟨g, o, cur, ha, hb, hg, hl, hm, hs, ht⟩
  · refine .inl ⟨?_, by simp only; omega, by simp only; omega⟩
    unfold subA
    rw [hn]
    split <;> rfl
  · by_cases hck : l.cap = k
    · refine .inr ⟨g, o, cur, by unfold subA; rw [if_pos hck, ha], hb, hg, by simp only; omega, by simp only; omega, by simp only; omega, ?_⟩
      simp only
      rw [show l.len - k = 0 by omega, List.take_zero, List.drop_eq_nil_of_le (by omega)]
    · refine .inr ⟨g, o + k, cur, by unfold subA; rw [if_neg hck, ha, Option.map_some, add_lit, Nat.mul_one], hb, hg, by simp only; omega, by simp only; omega, by simp only; omega, ?_⟩
      simp only
      rw [← ht, List.drop_take, List.drop_drop]
end
section
variable {P : Program} {t e : TypeId} {z : Value} {bytes : Nat} {w : World} {base : Nat} {l : Sl} {xs : List Value}
theorem append_o (el : El P t e z bytes) (h : OwnO w base e l xs) (x : Addr) (c : Nat) (news : List Value) (hn : ∀ j u, news[j]? = some u → w.cell? (x.add j) = some u) (h1 : ∀ u ∈ news, u.oneCell' = true)
    (hm : xs.length + news.length ≤ maxLen) (hb : (xs.length + news.length) * bytes ≤ 140737488355328) (hbase : base ≤ w.heap.size) :
    ∃ w' l', (Builtin.append_ #[t, t] t #[.slice l.a l.len l.cap, .slice (some x) news.length c]).run P w = .ok (.slice l'.a l'.len l'.cap) w' ∧ OwnO w' base e l' (xs ++ news) ∧ Fr (At l) w w' ∧ Since w l l' := by
  obtain ⟨i, hi, hi2⟩ := Option.map_eq_some_iff.1 el.info
  simp only [Prod.mk.injEq] at hi2
  obtain ⟨hz, hs1, hby⟩ := hi2
  have hlen := h.1
  rcases h.2 with ⟨ha, hl0, hc0⟩ | ⟨g, o, cur, ha, hbg, hg, hl, hmx, hs, ht⟩
  · have ho : Own w base e l xs := ⟨hlen, .inl ⟨ha, hl0, hc0⟩⟩
    obtain ⟨w', l', hr, o', f'⟩ := append_run el ho x c news hn h1 hm hb hbase
    exact ⟨w', l', hr, .of o', f', since_run el ho x c news hn h1 hm hb hr⟩
  · have hml : maxLen ≤ 9223372036854775807 := by decide
    by_cases hroom : l.len + news.length ≤ l.cap
    · have hf := run_firstCells_some (P := P) w i.size news.length x news.length c news (by rw [hs1]; omega) hn
      have hst := run_storeCells_cells (P := P) g (o + l.len) news 0 w (fun j hj => by rw [Nat.add_zero, cell_blk hg]; simp; omega) (fun j hj => by rw [Nat.add_zero]; exact frozen_z hg (.inr rfl) (by omega)) h1
      rw [Nat.add_zero] at hst
      obtain ⟨cur', k1, k2, k3⟩ := setCells_blk g e (0, 0) news (o + l.len) cur w hg (by omega)
      refine ⟨w.setCells g (o + l.len) news, ⟨l.a, l.len + news.length, l.cap⟩, ?_, ⟨by simp only [List.length_append]; omega, .inr ⟨g, o, cur', ha, hbg, k1, hroom, hmx, by rw [k2]; exact hs, ?_⟩⟩,
        (setCells_fr g news (o + l.len) w).mono fun k _ hk => ⟨_, ha, hk⟩, fun y hy => .inl ⟨y, hy, rfl⟩⟩
      · rw [ha]
        rw [hs1] at hf
        simp [Builtin.append_, run_underlying el.sl, Go.sizeOf, typeInfo, hi, hs1, Builtin.lenOf, hroom, hf, Addr.add_lit, hst]
      · have hol : o ≤ (cur.toList.take (o + l.len)).length := by rw [List.length_take]; simp; omega
        have e1 : (cur'.toList.drop o).take (l.len + news.length) = (cur'.toList.take (o + l.len + news.length)).drop o := by
          rw [List.drop_take, show o + l.len + news.length - o = l.len + news.length by omega]
        simp only
        rw [e1, k3, List.drop_append_of_le_length hol, List.drop_take, show o + l.len - o = l.len by omega, ht]
    · have holds : ∀ j u, xs[j]? = some u → w.cell? ((⟨g, o, none⟩ : Addr).add j) = some u := fun j u hu => by
        obtain ⟨q, hq, hc⟩ := h.reads j u hu
        rw [ha] at hq; cases hq; exact hc
      have hr := run_append_grow (P := P) w t t e i z el.sl hi hz ⟨g, o, none⟩ l.len l.cap xs (by rw [hs1]; omega) holds x news.length c news (by rw [hs1]; omega) hn (by omega) (by omega) (growslice_fits (by omega) (by rw [hby, ← hlen]; exact hb))
      have hge := grownCap_ge w (l.len + news.length) l.cap e
      have hcm2 : grownCap w (l.len + news.length) l.cap e ≤ maxLen := grownCap_le_maxLen w (l.len + news.length) l.cap e (by omega)
      rw [← ha] at hr
      refine ⟨_, ⟨some ⟨w.heap.size, 0, none⟩, l.len + news.length, grownCap w (l.len + news.length) l.cap e⟩, hr, ⟨by simp only [List.length_append]; omega, .inr ⟨w.heap.size, 0, _, rfl, hbase, heap_alloc_new w.drew _, hge, hcm2, ?_, ?_⟩⟩, ⟨rfl, rfl, rfl, by simp, fun k hk _ => alloc_old w.drew _ hk⟩, fun y hy => by cases hy; exact .inr (Nat.le_refl _)⟩
      · have := el.one
        simp only [Array.size_append, List.size_toArray, size_zeroCells, this, Nat.mul_one]
        omega
      · simp only [Array.toList_append, List.append_assoc, List.drop_zero]
        rw [← List.append_assoc]
        have : l.len + news.length = (xs ++ news).length := by rw [List.length_append]; omega
        rw [this]; exact List.take_left
theorem append_one_o (el : El P t e z bytes) (h : OwnO w base e l xs) {v : Value} (hv : v.oneCell' = true)
    (hm : xs.length + 1 ≤ maxLen) (hb : (xs.length + 1) * bytes ≤ 140737488355328) (hbase : base ≤ w.heap.size) {w2 : World} (hw2 : w2 = w.alloc (.cells #[v] e)) :
    ∃ w' l', (Builtin.append_ #[t, t] t #[.slice l.a l.len l.cap, .slice (some ⟨w.heap.size, 0, none⟩) 1 1]).run P w2 = .ok (.slice l'.a l'.len l'.cap) w' ∧ OwnO w' base e l' (xs ++ [v]) ∧
      Fr (At l) w w' ∧ Since w l l' := by
  subst hw2
  have h2 : OwnO (w.alloc (.cells #[v] e)) base e l xs := h.keep (.alloc (fun _ => False) _ _) (by simp)
  obtain ⟨w', l', hr, ho, hf, hs⟩ := append_o el h2 ⟨w.heap.size, 0, none⟩ 1 [v] (fun j u hu => by
      cases j with
      | zero => simp at hu; subst hu; rw [add_lit, cell_blk (alloc_new w _)]; rfl
      | succ j => simp at hu) (by simpa using hv) (by simpa using hm) (by simpa using hb) (by simp; omega)
  refine ⟨w', l', hr, ho, (Fr.alloc _ _ _).trans' hf, fun y hy => ?_⟩
  rcases hs y hy with hx | hn
  · exact .inl hx
  · simp only [World.alloc, Array.size_push] at hn
    exact .inr (by omega)
end
end Vc
