/- Plain facts on lists of bits, the lowest of each byte first. -/
import Derived.Test.YtofejgaanpaieaaRdM
set_option linter.unusedVariables false
namespace BitsM
open Vc
def num : List Bool → Nat
  | [] => 0
  | b :: r => b.toNat + 2 * num r
theorem num_lt : ∀ l : List Bool, num l < 2 ^ l.length
  | [] => by simp [num]
  | b :: r => by
    have h := num_lt r
    have hb : b.toNat ≤ 1 := Bool.toNat_le b
    simp only [num, List.length_cons, Nat.pow_succ]; omega
theorem num_append : ∀ l r : List Bool, num (l ++ r) = num l + 2 ^ l.length * num r
  | [], r => by simp [num]
  | b :: l, r => by
    simp only [List.cons_append, num, num_append l r, List.length_cons, Nat.pow_succ]
    rw [Nat.mul_add, ← Nat.mul_assoc, Nat.mul_comm 2 (2 ^ l.length)]; omega
theorem num_drop (l : List Bool) (k : Nat) : num (l.drop k) = num l / 2 ^ k := by
  rcases Nat.lt_or_ge l.length k with h | h
  · rw [List.drop_eq_nil_of_le (by omega)]
    have h1 := num_lt l
    have h2 : 2 ^ l.length ≤ 2 ^ k := Nat.pow_le_pow_right (by decide) (by omega)
    rw [Nat.div_eq_of_lt (by omega)]; rfl
  · have h1 := num_append (l.take k) (l.drop k)
    rw [List.take_append_drop] at h1
    have h2 := num_lt (l.take k)
    rw [List.length_take, Nat.min_eq_left h] at h1 h2
    rw [h1, Nat.add_mul_div_left _ _ (Nat.two_pow_pos k), Nat.div_eq_of_lt h2, Nat.zero_add]
theorem num_take (l : List Bool) (k : Nat) : num (l.take k) = num l % 2 ^ k := by
  rcases Nat.lt_or_ge l.length k with h | h
  · rw [List.take_of_length_le (by omega)]
    have h1 := num_lt l
    have h2 : 2 ^ l.length ≤ 2 ^ k := Nat.pow_le_pow_right (by decide) (by omega)
    rw [Nat.mod_eq_of_lt (by omega)]
  · have h1 := num_append (l.take k) (l.drop k)
    rw [List.take_append_drop] at h1
    have h2 := num_lt (l.take k)
    rw [List.length_take, Nat.min_eq_left h] at h1 h2
    rw [h1, Nat.add_mul_mod_self_left, Nat.mod_eq_of_lt h2]
/-- The lowest n bits of x. -/
def lowB : Nat → Nat → List Bool
  | 0, _ => []
  | n + 1, x => (x % 2 == 1) :: lowB n (x / 2)
theorem lowB_length : ∀ n x, (lowB n x).length = n
  | 0, _ => rfl
  | n + 1, x => by simp [lowB, lowB_length n]
theorem num_lowB : ∀ n x, num (lowB n x) = x % 2 ^ n
  | 0, x => by simp [lowB, num, Nat.mod_one]
  | n + 1, x => by
    simp only [lowB, num, num_lowB n (x / 2)]
    rw [Nat.pow_succ', Nat.mod_mul]
    have : (x % 2 == 1).toNat = x % 2 := by rcases Nat.mod_two_eq_zero_or_one x with h | h <;> simp [h]
    omega
theorem lowB_get : ∀ (n x i : Nat), i < n → (lowB n x)[i]? = some (x.testBit i)
  | n + 1, x, 0, _ => by simp [lowB, Nat.testBit_zero]; rfl
  | n + 1, x, i + 1, h => by simp only [lowB, List.getElem?_cons_succ, lowB_get n (x / 2) i (by omega), Nat.testBit_succ]
/-- The bits of a text. -/
def sbits : List UInt8 → List Bool
  | [] => []
  | c :: r => lowB 8 c.toNat ++ sbits r
theorem sbits_length : ∀ l, (sbits l).length = 8 * l.length
  | [] => rfl
  | c :: r => by simp only [sbits, List.length_append, lowB_length, sbits_length r, List.length_cons]; omega
theorem sbits_append : ∀ l r, sbits (l ++ r) = sbits l ++ sbits r
  | [], r => rfl
  | c :: l, r => by simp [sbits, sbits_append l r]
theorem sbits_drop : ∀ (l : List UInt8) (k : Nat), sbits (l.drop k) = (sbits l).drop (8 * k)
  | l, 0 => by simp
  | [], k + 1 => by simp [sbits]
  | c :: l, k + 1 => by
    simp only [List.drop_succ_cons, sbits, sbits_drop l k]
    rw [show 8 * (k + 1) = (lowB 8 c.toNat).length + 8 * k by rw [lowB_length]; omega, ← List.drop_drop, List.drop_left]
theorem num_sbits_take (s : ByteArray) : ∀ n, n ≤ s.size → num (sbits (s.data.toList.take n)) = V s n
  | 0, _ => rfl
  | n + 1, h => by
    have hlt : n < s.data.toList.length := by simp only [Array.length_toList]; exact h
    rw [List.take_succ_eq_append_getElem hlt, sbits_append, num_append, num_sbits_take s n (by omega), sbits_length, List.length_take, Nat.min_eq_left (by omega)]
    have hb : byt s n = (s.data.toList[n]).toNat := by unfold byt; rw [List.getElem?_eq_getElem hlt]; rfl
    simp only [V, sbits, List.append_nil, num_lowB, hb]
    have := (s.data.toList[n]).toNat_lt
    rw [Nat.mod_eq_of_lt (by omega), Nat.mul_comm]
theorem num_sbits (s : ByteArray) : num (sbits s.data.toList) = V s s.size := by
  have := num_sbits_take s s.size (Nat.le_refl _)
  rwa [List.take_of_length_le (by simp)] at this
/-- The next k bits by the list. -/
theorem nbits_list (s : ByteArray) (pos k : Nat) : nbits s pos k = num (((sbits s.data.toList).drop pos).take k) := by
  rw [num_take, num_drop, num_sbits]; rfl
end BitsM
