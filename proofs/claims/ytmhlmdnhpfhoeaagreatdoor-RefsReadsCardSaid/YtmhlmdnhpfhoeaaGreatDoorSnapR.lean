/- The reference's Parts and Clean: what they say, and that it is what snap.Clean says. Conditions: as named. -/
import Derived.Test.YtmhlmdnhpfhoeaaGreatDoorSeqX
import Derived.Test.YtmhlmdnhpfhoeaaGreatDoorRef07
import Derived.Test.YtmhlmdnhpfhoeaaGreatDoorHexFU
set_option linter.unusedVariables false
namespace Go.Proofs.YtmhlmdnhpfhoeaaGreatDoor
open Go Vc Go.Proofs

/-- The parts of bytes. -/
def partsL : List UInt8 → List (List UInt8)
  | [] => [[]]
  | b :: r => if b = 47 then [] :: partsL r else match partsL r with
    | h :: t => (b :: h) :: t
    | [] => [[b]]
def bsm (l : List (List UInt8)) : List ByteArray := l.map fun x => ⟨x.toArray⟩
theorem partsL_ne : ∀ l, partsL l ≠ []
  | [] => by simp [partsL]
  | b :: r => by
    rw [partsL]
    split
    · simp
    · split <;> simp
theorem partsL_slash : ∀ l, partsL (l ++ [47]) = partsL l ++ [[]]
  | [] => rfl
  | b :: r => by
    rw [List.cons_append, partsL, partsL, partsL_slash r]
    split
    · rfl
    · obtain ⟨h, t, e⟩ := List.exists_cons_of_ne_nil (partsL_ne r)
      rw [e]; rfl
theorem partsL_snoc {b : UInt8} (hb : b ≠ 47) : ∀ l, ∃ init last, partsL l = init ++ [last] ∧ partsL (l ++ [b]) = init ++ [last ++ [b]]
  | [] => ⟨[], [], rfl, by rw [List.nil_append, partsL, if_neg hb]; rfl⟩
  | c :: r => by
    obtain ⟨init, last, h1, h2⟩ := partsL_snoc hb r
    rw [List.cons_append, partsL, partsL, h1, h2]
    split
    · exact ⟨[] :: init, last, rfl, rfl⟩
    · cases init with
      | nil => exact ⟨[], c :: last, rfl, rfl⟩
      | cons h t => exact ⟨(c :: h) :: t, last, rfl, rfl⟩
theorem partsL_plain : ∀ l : List UInt8, (47 : UInt8) ∉ l → partsL l = [l]
  | [], _ => rfl
  | b :: r, h => by
    rw [partsL, if_neg (fun e => h (by simp [e])), partsL_plain r (fun e => h (by simp [e]))]
theorem partsL_cut : ∀ a b : List UInt8, (47 : UInt8) ∉ a → partsL (a ++ 47 :: b) = a :: partsL b
  | [], b, _ => by rw [List.nil_append, partsL, if_pos rfl]
  | c :: r, b, h => by
    rw [List.cons_append, partsL, if_neg (fun e => h (by simp [e])), partsL_cut r b (fun e => h (by simp [e]))]
theorem partsF_L : ∀ (g : Nat) (s : ByteArray), s.size ≤ g → partsF g s = bsm (partsL s.data.toList)
  | 0, s, h => by
    have : s.data.toList = [] := List.length_eq_zero_iff.1 (by rw [bs_len]; omega)
    rw [this]
    have e : s = ⟨[].toArray⟩ := bs_ext (by rw [this])
    rw [partsF, e]; rfl
  | g + 1, s, h => by
    rcases fnd_cases s 47 with ⟨hi, hno⟩ | ⟨i, hi, hlt, hb, hno⟩
    · rw [partsF_no hi, partsL_plain _ (fun hm => by
        obtain ⟨k, hk, he⟩ := List.getElem_of_mem hm
        obtain ⟨h1, h2⟩ := bs_get? (s := s) (i := k) (c := 47) (by rw [List.getElem?_eq_getElem hk, he])
        exact hno k h1 h2)]
      show [s] = [⟨s.data.toList.toArray⟩]
      rw [bs_self]
    · have hlt' : i < s.data.toList.length := by rw [bs_len]; exact hlt
      have hc : s.data.toList[i] = 47 := by
        have := bs_byt hlt
        rw [hb] at this
        exact (UInt8.toNat_inj.1 this).symm
      have hsp : s.data.toList = s.data.toList.take i ++ 47 :: s.data.toList.drop (i + 1) := by
        rw [← hc, ← List.drop_eq_getElem_cons hlt', List.take_append_drop]
      have hp : partsL s.data.toList = s.data.toList.take i :: partsL (s.data.toList.drop (i + 1)) := by
        conv => lhs; rw [hsp]
        exact partsL_cut _ _ fun hm => by
          obtain ⟨k, hk, he⟩ := List.getElem_of_mem hm
          rw [List.length_take] at hk
          rw [List.getElem_take] at he
          obtain ⟨h1, h2⟩ := bs_get? (s := s) (i := k) (c := 47) (by rw [List.getElem?_eq_getElem (by omega), he])
          exact hno k (by omega) h2
      rw [partsF_yes hi, partsF_L g _ (by simp; omega), hp, bs_tail]
      show s.extract 0 i :: _ = ⟨(s.data.toList.take i).toArray⟩ :: _
      congr 1
      refine bs_ext ?_
      rw [bs_head, bs_mk]
theorem elString : El Tryz.prog T_S_string T_string (.string ⟨#[]⟩) 16 := ⟨by kernel_rfl, by kernel_rfl, rfl⟩
def strV (l : List ByteArray) : List Value := l.map Value.string
theorem partsL_len : ∀ l : List UInt8, (partsL l).length ≤ l.length + 1
  | [] => Nat.le_refl _
  | b :: r => by
    have := partsL_len r
    rw [partsL]
    split
    · simp; omega
    · split
      · rename_i h t e
        rw [e] at this
        simp at this ⊢; omega
      · simp
theorem partsL_size : ∀ l : List UInt8, ∀ p ∈ partsL l, p.length ≤ l.length
  | [], p, h => by simp [partsL] at h; simp [h]
  | b :: r, p, h => by
    have ih := partsL_size r
    rw [partsL] at h
    split at h
    · rcases List.mem_cons.1 h with h | h
      · simp [h]
      · have := ih p h; simp; omega
    · split at h
      · rename_i q t e
        rw [e] at ih
        rcases List.mem_cons.1 h with h | h
        · have := ih q (by simp); simp [h]; omega
        · have := ih p (by simp [h]); simp; omega
      · simp at h; simp [h]
/-- 'Parts'. -/
theorem rparts_spec (s : ByteArray) (hs : s.size ≤ 4000000) (w : World) : Calls Tryz.prog F_cartularyref07_Parts #[.string s] w fun e w' =>
    ∃ l, e = .returned (.slice l.a l.len l.cap) ∧ Vc.Own w' w.heap.size T_string l (strV (bsm (partsL s.data.toList))) ∧ Fr (fun _ => False) w w' := by
  refine vc_cartularyref07_Parts_ok (R := fun v w' => ∃ l : Sl, v = .slice l.a l.len l.cap ∧ Vc.Own w' w.heap.size T_string l (strV (bsm (partsL s.data.toList))) ∧ Fr (fun _ => False) w w') ?_ (fun v w' ⟨l, h⟩ => ⟨l, by rw [h.1], h.2⟩)
  intro w1 h1
  have hf1 : Fr (fun _ => False) w w1 := by rw [h1]; exact .alloc _ _ _
  have ho1 : Vc.Own w1 w.heap.size T_string ⟨some ⟨w.heap.size, 0, none⟩, 1, 1⟩ (strV (bsm (partsL (s.data.toList.take 0)))) :=
    ⟨rfl, .inr ⟨w.heap.size, _, rfl, Nat.le_refl _, by rw [h1]; exact alloc_new _ _, Nat.le_refl _, show 1 ≤ maxLen by decide, rfl, rfl⟩⟩
  refine ⟨fun l i w' => ∃ k : Nat, i = k ∧ k ≤ s.size ∧ Vc.Own w' w.heap.size T_string l (strV (bsm (partsL (s.data.toList.take k)))) ∧ Fr (fun _ => False) w w', fun _ i _ => s.size - i.toNat, ⟨0, rfl, Nat.zero_le _, ho1, hf1⟩, ?_⟩
  clear h1 ho1 hf1 w1
  rintro l i w6 ⟨k, rfl, hk, ho, hf⟩
  have e1 : IntKind.i64.wrap ((k : Int) + 1) = ((k + 1 : Nat) : Int) := by rw [wrap_i64 (by omega) (by omega)]; omega
  rw [e1]
  refine ⟨fun hlt => ?_, fun hge => ?_⟩
  · have hlt := of_decide_eq_true hlt
    have hks : k < s.size := by omega
    have htk := bs_take hks
    have hb0 := byt_lt s k
    have hlen : l.len = (partsL (s.data.toList.take k)).length := by rw [ho.len]; simp [strV, bsm]
    have hpl := partsL_len (s.data.toList.take k)
    rw [List.length_take, bs_len] at hpl
    rw [byteAt_nat]
    refine ⟨⟨by omega, by omega⟩, fun hb w7 h7 => ?_, fun hb w10 d10 => ?_⟩
    · have hb : byt s k = 47 := by have := eq_of_beq hb; omega
      rw [hb, show UInt8.ofNat 47 = 47 from rfl] at htk
      obtain ⟨w8, l9, hr8, ho8, hf8, _⟩ := append_one' elString ho (v := .string ⟨#[]⟩) rfl (by simp [strV, bsm, maxLen]; omega) (by simp [strV, bsm]; omega) hf.size h7
      refine ⟨w8, l9, hr8, ⟨k + 1, rfl, by omega, ?_, hf.trans hf8 fun q hq ⟨y, hy, e⟩ => by have := (ho.blk hy).1; omega⟩, by dsimp only; omega⟩
      rw [htk, partsL_slash]
      simpa [strV, bsm] using ho8
    · have hb : byt s k ≠ 47 := fun e => by rw [e] at hb; simp at hb
      obtain ⟨init, last, p1, p2⟩ := partsL_snoc (b := UInt8.ofNat (byt s k)) (fun e => hb (by have := congrArg UInt8.toNat e; rw [toNat_of _ hb0] at this; exact this)) (s.data.toList.take k)
      have ho10 := ho.drew d10
      rw [p1] at hlen ho10 hpl
      rw [List.length_append, List.length_singleton] at hpl
      have hli : l.len = init.length + 1 := by rw [hlen]; simp
      have hll : last.length ≤ s.size := by
        have := partsL_size (s.data.toList.take k) last (by rw [p1]; simp)
        rw [List.length_take, bs_len] at this; omega
      have e2 : IntKind.i64.wrap ((l.len : Int) - 1) = (init.length : Int) := by rw [hli, wrap_i64 (by omega) (by omega)]; omega
      rw [e2]
      obtain ⟨a, ha, hc, hw, hset⟩ := ho10.set (i := init.length) (by simp [strV, bsm])
      have hcv : (strV (bsm (init ++ [last])))[init.length]'(by simp [strV, bsm]) = .string ⟨last.toArray⟩ := by simp [strV, bsm]
      rw [hcv] at hc
      have hex : s.extract k (k + 1) = ⟨[UInt8.ofNat (byt s k)].toArray⟩ := bs_ext (by
        rw [bs_extract, bs_mk, Nat.add_sub_cancel_left]
        have hlt' : k < s.data.toList.length := by rw [bs_len]; exact hks
        rw [List.drop_eq_getElem_cons hlt']
        have := bs_get hks
        rw [List.getElem?_eq_getElem hlt'] at this
        rw [Option.some.inj this]; rfl)
      have hap : (⟨last.toArray⟩ : ByteArray) ++ s.extract k (k + 1) = ⟨(last ++ [UInt8.ofNat (byt s k)]).toArray⟩ := bs_ext (by rw [bs_app, hex, bs_mk, bs_mk, bs_mk])
      refine ⟨⟨by omega, by omega⟩, a, ha, ⟨last.toArray⟩, by rw [Int.toNat_natCast, Nat.mul_one]; exact hc, ⟨by omega, by omega, by omega⟩, ?_, ⟨by omega, by omega⟩, a, ha, by rw [Int.toNat_natCast, Nat.mul_one]; exact hw, fun w14 h14 => ?_⟩
      · rw [bs_mksize, Int.toNat_natCast, Int.toNat_natCast, hex, bs_mksize]; simp; omega
      · rw [Int.toNat_natCast, Int.toNat_natCast, Int.toNat_natCast, Nat.mul_one, hap] at h14
        obtain ⟨ho14, hf14⟩ := hset (.string ⟨(last ++ [UInt8.ofNat (byt s k)]).toArray⟩)
        rw [← h14] at ho14 hf14
        refine ⟨⟨k + 1, rfl, by omega, ?_, (hf.trans' (.drew _ d10)).trans hf14 fun q hq ⟨y, hy, e⟩ => by have := (ho10.blk hy).1; omega⟩, by dsimp only; omega⟩
        rw [htk, p2]
        have : (strV (bsm (init ++ [last]))).set init.length (.string ⟨(last ++ [UInt8.ofNat (byt s k)]).toArray⟩) = strV (bsm (init ++ [last ++ [UInt8.ofNat (byt s k)]])) := by
          simp [strV, bsm]
        rw [this] at ho14
        exact ho14
  · have hge := of_decide_eq_false hge
    have : k = s.size := by omega
    rw [this, bs_all] at ho
    exact ⟨l, rfl, ho, hf⟩
end Go.Proofs.YtmhlmdnhpfhoeaaGreatDoor
