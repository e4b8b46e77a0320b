/- Go's text functions of this seat: Index and Cut at one byte, ContainsAny at two, EqualFold against '.git'. Conditions: as named. -/
import Derived.Test.YtoagdpjickippaaDoorVcStr
import Derived.Test.YtoagdpjickippaaDoorVcSls
import Derived.Test.YtoagdpjickippaaDoorStr1
import Derived.Test.YtoagdpjickippaaDoorLaysB
import Derived.Shelf.Strings.Search1
set_option linter.unusedVariables false
namespace Go.Proofs.YtoagdpjickippaaDoor
open Go Vc Go.Proofs

theorem indexByteL_spec (s : ByteArray) (c : Int) (w : World) : Calls Tryd.prog F_stringslite_IndexByte #[.string s, .int .u8 c] w fun e w' => e = .returned (.int .i64 (Lib.indexByte s.data.toList c.toNat.toUInt8)) ∧ w' = w :=
  Any.stringslite_IndexByte lays217 s c w
/-- 'Index' at one byte. -/
theorem index1_spec (s : ByteArray) (c : Nat) (hc : c < 256) (w : World) : Calls Tryd.prog F_stringslite_Index #[.string s, .string ⟨#[UInt8.ofNat c]⟩] w fun e w' => e = .returned (.int .i64 (Lib.indexByte s.data.toList (UInt8.ofNat c))) ∧ w' = w := by
  refine vc_stringslite_Index_ok (R := fun v w' => v = .int .i64 (Lib.indexByte s.data.toList (UInt8.ofNat c)) ∧ w' = w) ?_ (fun v w' h => ⟨by rw [h.1], h.2⟩)
  have hb : byteAt ⟨#[UInt8.ofNat c]⟩ 0 = (c : Int) := by
    show (((UInt8.ofNat c).toNat : Nat) : Int) = _
    rw [toNat_of c hc]
  have h1 : (ByteArray.mk #[UInt8.ofNat c]).size = 1 := rfl
  refine ⟨fun _ => False, ⟨fun h => absurd h (by rw [h1]; decide), fun _ => ⟨fun h => ?_, fun _ => ⟨fun _ => ⟨⟨by decide, by rw [h1]; decide⟩, ?_⟩, fun h => absurd h (by rw [h1]; decide)⟩⟩⟩, fun _ h => h.elim⟩
  · rw [bs_eq] at h
    have h := of_decide_eq_true h
    subst h
    refine ⟨?_, rfl⟩
    have : Lib.indexByte (ByteArray.mk #[UInt8.ofNat c]).data.toList (UInt8.ofNat c) = ((0 : Nat) : Int) :=
      fnd_at (by rw [h1]; decide) rfl (fun k hk => by omega)
    rw [this]; rfl
  · rw [hb]
    refine (indexByteL_spec s c w).mono ?_
    rintro e w2 ⟨rfl, rfl⟩
    refine ⟨_, rfl, ?_, rfl⟩
    simp
/-- What 'Cut' at one byte says. -/
def cutS (s : ByteArray) (c : UInt8) : ByteArray × ByteArray × Bool :=
  if Lib.indexByte s.data.toList c = -1 then (s, ⟨#[]⟩, false) else (s.extract 0 (Lib.indexByte s.data.toList c).toNat, s.extract ((Lib.indexByte s.data.toList c).toNat + 1) s.size, true)
theorem cutL_spec (s : ByteArray) (hs : s.size ≤ 140737488355328) (c : Nat) (hc : c < 256) (w : World) : Calls Tryd.prog F_stringslite_Cut #[.string s, .string ⟨#[UInt8.ofNat c]⟩] w fun e w' =>
    e = .returned (.tuple #[.string (cutS s (UInt8.ofNat c)).1, .string (cutS s (UInt8.ofNat c)).2.1, .bool (cutS s (UInt8.ofNat c)).2.2]) ∧ Drew w w' := by
  refine vc_stringslite_Cut_ok (R := fun v w' => v = .tuple #[.string (cutS s (UInt8.ofNat c)).1, .string (cutS s (UInt8.ofNat c)).2.1, .bool (cutS s (UInt8.ofNat c)).2.2] ∧ Drew w w') ?_ (fun v w' h => ⟨by rw [h.1], h.2⟩)
  refine (index1_spec s c hc w).mono ?_
  rintro e w2 ⟨rfl, rfl⟩
  have h1 : (ByteArray.mk #[UInt8.ofNat c]).size = 1 := rfl
  unfold cutS
  rcases fnd_cases s (UInt8.ofNat c) with ⟨h, _⟩ | ⟨i, h, hi, _⟩
  · rw [h, if_pos rfl]
    exact ⟨_, rfl, fun h => absurd h (by decide), fun _ => ⟨rfl, .refl _⟩⟩
  · rw [h, if_neg (by omega)]
    refine ⟨_, rfl, ?_⟩
    rw [h1]
    have e1 : IntKind.i64.wrap ((i : Int) + ((1 : Nat) : Int)) = ((i + 1 : Nat) : Int) := by rw [wrap_i64 (by omega) (by omega)]; omega
    rw [e1]
    exact ⟨fun _ => ⟨⟨by omega, by omega⟩, ⟨by omega, by omega⟩, fun w4 hd => ⟨by simp only [Int.toNat_natCast], hd⟩⟩, fun h => absurd (of_decide_eq_false h) (by omega)⟩
theorem cut_spec (s : ByteArray) (hs : s.size ≤ 140737488355328) (c : Nat) (hc : c < 256) (w : World) : Calls Tryd.prog F_strings_Cut #[.string s, .string ⟨#[UInt8.ofNat c]⟩] w fun e w' =>
    e = .returned (.tuple #[.string (cutS s (UInt8.ofNat c)).1, .string (cutS s (UInt8.ofNat c)).2.1, .bool (cutS s (UInt8.ofNat c)).2.2]) ∧ Drew w w' := by
  refine vc_strings_Cut_ok (R := fun v w' => v = .tuple #[.string (cutS s (UInt8.ofNat c)).1, .string (cutS s (UInt8.ofNat c)).2.1, .bool (cutS s (UInt8.ofNat c)).2.2] ∧ Drew w w') ?_ (fun v w' h => ⟨by rw [h.1], h.2⟩)
  refine (cutL_spec s hs c hc w).mono ?_
  rintro e w2 ⟨rfl, hd⟩
  exact ⟨_, _, _, rfl, rfl, hd⟩
end Go.Proofs.YtoagdpjickippaaDoor
