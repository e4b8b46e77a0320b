/- Objects: Name, Kind, Number, Encode, Id, Decode of what was encoded. Conditions: as named. -/
import Derived.Test.YtoagdpjickippaaDoorSnapX
import Derived.Test.YtoagdpjickippaaDoorShaU
import Derived.Test.YtoagdpjickippaaDoorHexG
import Derived.Test.YtoagdpjickippaaDoorLaysN
import Derived.Shelf.Strconv.Itoa3
import Derived.Shelf.Strconv.Atoi
import Derived.Lib.LaidTab
import Derived.Test.YtoagdpjickippaaDoorObjG
set_option linter.unusedVariables false
namespace Go.Proofs.YtoagdpjickippaaDoor
open Go Vc HexM ShaM Go.Proofs

def kname (k : Int) : ByteArray := if k = 1 then ⟨#[99, 111, 109, 109, 105, 116]⟩ else if k = 2 then ⟨#[116, 114, 101, 101]⟩ else if k = 3 then ⟨#[98, 108, 111, 98]⟩ else if k = 4 then ⟨#[116, 97, 103]⟩ else ⟨#[]⟩
theorem oname_spec (k : Int) (w : World) : Calls Tryd.prog F_object_Name #[.int .i64 k] w fun e w' => e = .returned (.string (kname k)) ∧ w' = w := by
  refine vc_object_Name_ok (R := fun v w' => v = .string (kname k) ∧ w' = w) ?_ (fun v w' h => ⟨by rw [h.1], h.2⟩)
  have bq : ∀ {a b : Int} {r : Bool}, (a == b) = r → decide (a = b) = r := fun h => by rw [← h]; rfl
  unfold kname
  refine ⟨fun h => ?_, fun h => ⟨fun h2 => ?_, fun h2 => ⟨fun h3 => ?_, fun h3 => ⟨fun h4 => ?_, fun h4 => ?_⟩⟩⟩⟩
  · rw [if_pos (eq_of_beq h)]; exact ⟨rfl, rfl⟩
  · rw [if_neg (of_decide_eq_false (bq h)), if_pos (eq_of_beq h2)]; exact ⟨rfl, rfl⟩
  · rw [if_neg (of_decide_eq_false (bq h)), if_neg (of_decide_eq_false (bq h2)), if_pos (eq_of_beq h3)]; exact ⟨rfl, rfl⟩
  · rw [if_neg (of_decide_eq_false (bq h)), if_neg (of_decide_eq_false (bq h2)), if_neg (of_decide_eq_false (bq h3)), if_pos (eq_of_beq h4)]; exact ⟨rfl, rfl⟩
  · rw [if_neg (of_decide_eq_false (bq h)), if_neg (of_decide_eq_false (bq h2)), if_neg (of_decide_eq_false (bq h3)), if_neg (of_decide_eq_false (bq h4))]; exact ⟨rfl, rfl⟩
def isKind (k : Int) : Prop := k = 1 ∨ k = 2 ∨ k = 3 ∨ k = 4
theorem kname_ok {k : Int} (h : isKind k) : kname k ≠ ⟨#[]⟩ ∧ (kname k).size ≤ 6 ∧ (0 : UInt8) ∉ (kname k).data.toList ∧ (32 : UInt8) ∉ (kname k).data.toList := by
  rcases h with rfl | rfl | rfl | rfl <;> exact ⟨by decide, by decide, by decide, by decide⟩
theorem kname_no {k : Int} (h : ¬ isKind k) : kname k = ⟨#[]⟩ := by
  unfold isKind at h
  unfold kname
  rw [if_neg (fun e => h (.inl e)), if_neg (fun e => h (.inr (.inl e))), if_neg (fun e => h (.inr (.inr (.inl e)))), if_neg (fun e => h (.inr (.inr (.inr e))))]
theorem okind_spec {k : Int} (h : isKind k) (w : World) : Calls Tryd.prog F_object_Kind #[.string (kname k)] w fun e w' => e = .returned (.int .i64 k) ∧ w' = w := by
  refine vc_object_Kind_ok (R := fun v w' => v = .int .i64 k ∧ w' = w) ?_ (fun v w' h => ⟨by rw [h.1], h.2⟩)
  have hk : 1 ≤ k ∧ k ≤ 4 := by unfold isKind at h; omega
  refine ⟨fun i w' => 1 ≤ i ∧ i ≤ k ∧ w' = w, fun i _ => (5 - i).toNat, ⟨by omega, hk.1, rfl⟩, ?_⟩
  rintro i w4 ⟨h1, h2, hw⟩
  replace hw := hw.symm
  subst hw
  refine ⟨fun _ => (oname_spec i w).mono ?_, fun h => by have := of_decide_eq_false h; omega⟩
  rintro e w6 ⟨rfl, hw⟩
  replace hw := hw.symm
  subst hw
  have hi : isKind i := by unfold isKind; omega
  refine ⟨_, rfl, fun he => ?_, fun he => ?_⟩
  · rw [bs_eq] at he
    have he := of_decide_eq_true he
    refine ⟨?_, rfl⟩
    rcases h with rfl | rfl | rfl | rfl <;> rcases hi with rfl | rfl | rfl | rfl <;> first | rfl | exact absurd he (by decide)
  · rw [bs_eq] at he
    have he := of_decide_eq_false he
    have hne : i ≠ k := fun e => he (by rw [e])
    rw [wrap_i64 (by omega) (by omega)]
    exact ⟨⟨by omega, by omega, rfl⟩, by dsimp only; omega⟩
/-- The table that Itoa looks into. -/
def Tab10 (w : World) : Prop := Lib.TabIs Tryd.prog w "internal/strconv.uint64pow10" .u64 Lib.pow10Tab
theorem Tab10.keep {w w1 : World} (h : Tab10 w) (hf : Fr (fun _ => False) w w1) : Tab10 w1 := by
  unfold Tab10 Lib.TabIs World.var? at h ⊢
  obtain ⟨g, hg, h2⟩ := Option.bind_eq_some_iff.1 h
  rw [hg, Option.bind_some]
  cases hb : w.heap[g]? with
  | none => rw [hb] at h2; cases h2
  | some o =>
    rw [hb] at h2
    have := hf.blk g (lt_blk hb) (by simp)
    rw [this, hb]; exact h2
def dec3 (n : Nat) : List UInt8 := if n < 10 then [UInt8.ofNat (48 + n)] else if n < 100 then [UInt8.ofNat (48 + n / 10), UInt8.ofNat (48 + n % 10)] else [UInt8.ofNat (48 + n / 100), UInt8.ofNat (48 + n / 10 % 10), UInt8.ofNat (48 + n % 10)]
theorem itoa_dec {n : Nat} (h : n < 1000) : Lib.itoa (n : Int) = dec3 n := by
  unfold Lib.itoa dec3
  rw [if_neg (by omega), Int.toNat_natCast]
  by_cases h1 : n < 10
  · rw [if_pos h1, Lib.decDigits, dif_pos h1]
  · rw [if_neg h1, Lib.decDigits, dif_neg h1]
    by_cases h2 : n < 100
    · rw [if_pos h2, Lib.decDigits, dif_pos (by omega)]; rfl
    · rw [if_neg h2, Lib.decDigits, dif_neg (by omega), Lib.decDigits, dif_pos (by omega), show n / 10 / 10 = n / 100 by omega]; rfl
theorem dec_facts : ∀ n, n < 301 → Lib.atoi (dec3 n) = some (n : Int) ∧ (dec3 n).length ≤ 3 ∧ (0 : UInt8) ∉ dec3 n ∧ (32 : UInt8) ∉ dec3 n := by decide +kernel
theorem itoa_spec (n : Nat) (hn : n ≤ 65000) {w : World} (ht : Tab10 w) : Calls Tryd.prog F_strconv_Itoa #[.int .i64 (n : Int)] w fun e w' => e = .returned (.string ⟨(Lib.itoa (n : Int)).toArray⟩) ∧ Fr (fun _ => False) w w' :=
  (Any.strconv_Itoa laysM171 (n : Int) (by omega) (by omega) w ht).mono fun e w' ⟨h, k, os, hw⟩ => ⟨h, by rw [hw]; exact grow_fr _ _ _⟩
theorem bytesWorld_fr (w : World) (e : TypeId) (s : ByteArray) : Fr (fun _ => False) w (Lib.bytesWorld w e s) :=
  ⟨rfl, rfl, rfl, by rw [Lib.bytesWorld_size]; omega, fun k hk _ => Lib.bytesWorld_at_old _ _ _ _ hk⟩
theorem onumber_spec (n : Nat) (hn : n < 301) {w : World} (ht : Tab10 w) : Calls Tryd.prog F_object_Number #[.string ⟨(dec3 n).toArray⟩] w fun e w' => e = .returned (.tuple #[.int .i64 (n : Int), .bool true]) ∧ Fr (fun _ => False) w w' := by
  refine vc_object_Number_ok (R := fun v w' => v = .tuple #[.int .i64 (n : Int), .bool true] ∧ Fr (fun _ => False) w w') ?_ (fun v w' h => ⟨by rw [h.1], h.2⟩)
  obtain ⟨f1, f2, _⟩ := dec_facts n hn
  have hsz : (⟨(dec3 n).toArray⟩ : ByteArray).size ≤ 3 := by rw [bs_mksize]; exact f2
  refine (Any.strconv_Atoi lays172 ⟨(dec3 n).toArray⟩ (n : Int) (by omega) (by rw [bs_mk]; exact f1) w).mono ?_
  rintro e w2 ⟨rfl, t, rfl⟩
  have hf2 := bytesWorld_fr w (lays172_ren.t 5) t
  generalize Lib.bytesWorld w (lays172_ren.t 5) t = w2 at hf2
  refine ⟨_, ⟨⟩, rfl, fun h => (by cases h), fun _ => ⟨fun h => (by have := of_decide_eq_true h; omega), fun _ => ⟨fun h => (by have := of_decide_eq_true h; omega), fun _ => (itoa_spec n (by omega) (ht.keep hf2)).mono ?_⟩⟩⟩
  rintro e w6 ⟨rfl, hf6⟩
  rw [itoa_dec (by omega)]
  exact ⟨_, rfl, fun h => (by rw [beq_self_eq_true] at h; cases h), fun _ => ⟨rfl, hf2.trans' hf6⟩⟩
end Go.Proofs.YtoagdpjickippaaDoor
