/- What the reference's functions on primes and roots do: as functions on numbers, and the table that they make. No condition but on the number of primes. -/
import Derived.Test.YtcboiljbkkleiaaShaA
import Derived.Test.YtcboiljbkkleiaaVcApp
set_option linter.unusedVariables false
namespace ShaM
open Go
/-- The high half of a product, as the reference reckons it. -/
def mulHi (a b : Int) : Int := (IntKind.wrap IntKind.u64 (IntKind.wrap IntKind.u64 (IntKind.wrap IntKind.u64 (Int.fdiv a (2 ^ min (Int.toNat 32) 64) * Int.fdiv b (2 ^ min (Int.toNat 32) 64)) + Int.fdiv (IntKind.wrap IntKind.u64 (IntKind.wrap IntKind.u64 (IntKind.wrap IntKind.u64 (↑(BitVec.toNat (BitVec.ofInt 64 a &&& BitVec.ofInt 64 4294967295)) : Int) * Int.fdiv b (2 ^ min (Int.toNat 32) 64)) + Int.fdiv (IntKind.wrap IntKind.u64 (IntKind.wrap IntKind.u64 (↑(BitVec.toNat (BitVec.ofInt 64 a &&& BitVec.ofInt 64 4294967295)) : Int) * IntKind.wrap IntKind.u64 (↑(BitVec.toNat (BitVec.ofInt 64 b &&& BitVec.ofInt 64 4294967295)) : Int))) (2 ^ min (Int.toNat 32) 64))) (2 ^ min (Int.toNat 32) 64)) + Int.fdiv (IntKind.wrap IntKind.u64 (IntKind.wrap IntKind.u64 (Int.fdiv a (2 ^ min (Int.toNat 32) 64) * IntKind.wrap IntKind.u64 (↑(BitVec.toNat (BitVec.ofInt 64 b &&& BitVec.ofInt 64 4294967295)) : Int)) + IntKind.wrap IntKind.u64 (↑(BitVec.toNat (BitVec.ofInt 64 (IntKind.wrap IntKind.u64 (IntKind.wrap IntKind.u64 (IntKind.wrap IntKind.u64 (↑(BitVec.toNat (BitVec.ofInt 64 a &&& BitVec.ofInt 64 4294967295)) : Int) * Int.fdiv b (2 ^ min (Int.toNat 32) 64)) + Int.fdiv (IntKind.wrap IntKind.u64 (IntKind.wrap IntKind.u64 (↑(BitVec.toNat (BitVec.ofInt 64 a &&& BitVec.ofInt 64 4294967295)) : Int) * IntKind.wrap IntKind.u64 (↑(BitVec.toNat (BitVec.ofInt 64 b &&& BitVec.ofInt 64 4294967295)) : Int))) (2 ^ min (Int.toNat 32) 64))) &&& BitVec.ofInt 64 4294967295)) : Int))) (2 ^ min (Int.toNat 32) 64)))
def mulLo (a b : Int) : Int := IntKind.wrap IntKind.u64 (a * b)
def under3 (y p : Int) : Bool :=
  let hi := mulHi y y
  let lo := mulLo y y
  let a := mulHi lo y
  let b := mulLo lo y
  let c0 := mulHi hi y
  let d := mulLo hi y
  let sum := IntKind.wrap IntKind.u64 (d + a)
  let c := if sum < d then IntKind.wrap IntKind.u64 (c0 + 1) else c0
  let ph := Int.fdiv p (2 ^ min (Int.toNat 32) 64)
  let pl := IntKind.wrap IntKind.u64 (p * 2 ^ min (Int.toNat 32) 64)
  if c > 0 then (if ph > c then true else if ph == c then decide (pl > sum) else false) else (if sum < pl then true else if sum == pl then b == 0 else false)
def under2 (y p : Int) : Bool := if mulHi y y < p then true else if mulHi y y == p then mulLo y y == 0 else false
def rootI (under : Int → Int → Bool) (p : Int) : Nat → Int → Int
  | 0, x => x
  | b + 1, x => match under (IntKind.wrap IntKind.u64 (x + IntKind.wrap IntKind.u64 (1 * 2 ^ min (Int.toNat (b : Int)) 64))) p with
    | true => rootI under p b (IntKind.wrap IntKind.u64 (x + IntKind.wrap IntKind.u64 (1 * 2 ^ min (Int.toNat (b : Int)) 64)))
    | false => rootI under p b x
def root3 (p : Int) : Int := IntKind.wrap IntKind.u32 (rootI under3 p 41 0)
def root2 (p : Int) : Int := IntKind.wrap IntKind.u32 (rootI under2 p 41 0)
/-- The primes below p + 2. -/
def primesTo : Nat → List Nat
  | 0 => []
  | p + 1 => match (primesTo p).all (fun q => (p + 2) % q != 0) with
    | true => primesTo p ++ [p + 2]
    | false => primesTo p
def K256 : List W := ((primesTo 310).map fun p : Nat => BitVec.ofInt 32 (root3 (p : Int)))
end ShaM
namespace Go.Proofs.Ytcboiljbkkleiaa
open Go Vc BitsM ShaM Go.Proofs

theorem elU64 : El Try.prog T_S_uint64 T_uint64 (.int .u64 0) 8 := ⟨by kernel_rfl, by kernel_rfl, rfl⟩
theorem mul_spec (a b : Int) (w : World) : Calls Try.prog F_cartularyref02_mul #[.int .u64 a, .int .u64 b] w fun e w' => e = .returned (.tuple #[.int .u64 (mulHi a b), .int .u64 (mulLo a b)]) ∧ w' = w := by
  refine vc_cartularyref02_mul_ok (R := fun v w' => v = .tuple #[.int .u64 (mulHi a b), .int .u64 (mulLo a b)] ∧ w' = w) ?_ (fun v w' h => ⟨by rw [h.1], h.2⟩)
  exact ⟨by decide, by decide, by decide, by decide, by decide, rfl, rfl⟩
theorem under2_spec (y p : Int) (w : World) : Calls Try.prog F_cartularyref02_under #[.int .i64 2, .int .u64 y, .int .u64 p] w fun e w' => e = .returned (.bool (under2 y p)) ∧ w' = w := by
  refine vc_cartularyref02_under_ok (R := fun v w' => v = .bool (under2 y p) ∧ w' = w) ?_ (fun v w' h => ⟨by rw [h.1], h.2⟩)
  refine (mul_spec y y w).mono ?_
  rintro e w2 ⟨rfl, rfl⟩
  refine ⟨_, _, rfl, fun _ => ⟨fun h => ?_, fun h => ⟨fun h2 => ?_, fun h2 => ?_⟩⟩, fun h => absurd h (by decide)⟩
  · have h := of_decide_eq_true h
    unfold under2; rw [if_pos h]; exact ⟨rfl, rfl⟩
  · have h := of_decide_eq_false h
    unfold under2; rw [if_neg h, if_pos h2]; exact ⟨rfl, rfl⟩
  · have h := of_decide_eq_false h
    unfold under2; rw [if_neg h, if_neg (by rw [h2]; decide)]; exact ⟨rfl, rfl⟩
theorem under3_spec (y p : Int) (w : World) : Calls Try.prog F_cartularyref02_under #[.int .i64 3, .int .u64 y, .int .u64 p] w fun e w' => e = .returned (.bool (under3 y p)) ∧ w' = w := by
  refine vc_cartularyref02_under_ok (R := fun v w' => v = .bool (under3 y p) ∧ w' = w) ?_ (fun v w' h => ⟨by rw [h.1], h.2⟩)
  refine (mul_spec y y w).mono ?_
  rintro e w2 ⟨rfl, rfl⟩
  refine ⟨_, _, rfl, fun h => absurd h (by decide), fun _ => ?_⟩
  refine (mul_spec _ y w2).mono ?_
  rintro e w6 ⟨rfl, rfl⟩
  refine ⟨_, _, rfl, ?_⟩
  refine (mul_spec _ y w6).mono ?_
  rintro e w10 ⟨rfl, rfl⟩
  refine ⟨_, _, rfl, ?_⟩
  simp only [under3]
  generalize mulHi y y = hi
  generalize mulLo y y = lo
  generalize mulHi lo y = a
  generalize mulLo lo y = b
  generalize mulHi hi y = c0
  generalize mulLo hi y = d
  generalize IntKind.u64.wrap (d + a) = sum
  generalize Int.fdiv p (2 ^ min (Int.toNat 32) 64) = ph
  generalize IntKind.u64.wrap (p * 2 ^ min (Int.toNat 32) 64) = pl
  refine ⟨fun c w' => c = (if sum < d then IntKind.wrap IntKind.u64 (c0 + 1) else c0) ∧ w' = w10, ⟨fun h => ?_, fun h => ?_⟩, ?_⟩
  · rw [if_pos (of_decide_eq_true h)]; exact ⟨rfl, rfl⟩
  · rw [if_neg (of_decide_eq_false h)]; exact ⟨rfl, rfl⟩
  rintro c w15 ⟨hc, rfl⟩
  rw [← hc]
  refine ⟨fun h => ⟨by decide, fun h2 => ?_, fun h2 => ⟨by decide, fun h3 => ⟨by decide, ?_⟩, fun h3 => ?_⟩⟩, fun h => ⟨by decide, fun h2 => ?_, fun h2 => ⟨by decide, fun h3 => ?_, fun h3 => ?_⟩⟩⟩
  · rw [if_pos (of_decide_eq_true h), if_pos (of_decide_eq_true h2)]; exact ⟨rfl, rfl⟩
  · rw [if_pos (of_decide_eq_true h), if_neg (of_decide_eq_false h2), if_pos h3]; exact ⟨rfl, rfl⟩
  · rw [if_pos (of_decide_eq_true h), if_neg (of_decide_eq_false h2), if_neg (by rw [h3]; decide)]; exact ⟨rfl, rfl⟩
  · rw [if_neg (of_decide_eq_false h), if_pos (of_decide_eq_true h2)]; exact ⟨rfl, rfl⟩
  · rw [if_neg (of_decide_eq_false h), if_neg (of_decide_eq_false h2), if_pos h3]; exact ⟨rfl, rfl⟩
  · rw [if_neg (of_decide_eq_false h), if_neg (of_decide_eq_false h2), if_neg (by rw [h3]; decide)]; exact ⟨rfl, rfl⟩

theorem root_spec (under : Int → Int → Bool) (n : Int) (hu : ∀ y p w, Calls Try.prog F_cartularyref02_under #[.int .i64 n, .int .u64 y, .int .u64 p] w fun e w' => e = .returned (.bool (under y p)) ∧ w' = w) (p : Int) (w : World) :
    Calls Try.prog F_cartularyref02_Roots #[.int .i64 n, .int .u64 p] w fun e w' => e = .returned (.int .u32 (IntKind.wrap IntKind.u32 (rootI under p 41 0))) ∧ w' = w := by
  refine vc_cartularyref02_Roots_ok (R := fun v w' => v = .int .u32 (IntKind.wrap IntKind.u32 (rootI under p 41 0)) ∧ w' = w) ?_ (fun v w' h => ⟨by rw [h.1], h.2⟩)
  refine ⟨fun x b w' => w' = w ∧ ∃ k : Nat, k ≤ 41 ∧ b = (k : Int) - 1 ∧ rootI under p 41 0 = rootI under p k x, fun _ b _ => (b + 1).toNat, ⟨rfl, 41, by decide, by decide, rfl⟩, ?_⟩
  rintro x b w5 ⟨rfl, k, hk, rfl, hr⟩
  refine ⟨fun h => ?_, fun h => ?_⟩
  · have h := of_decide_eq_true h
    obtain ⟨j, rfl⟩ : ∃ j, k = j + 1 := ⟨k - 1, by omega⟩
    have e1 : (((j + 1 : Nat) : Int) - 1) = (j : Int) := by omega
    have e2 : IntKind.i64.wrap ((j : Int) - 1) = (j : Int) - 1 := wrap_i64 (by omega) (by omega)
    rw [e1, e2]
    refine ⟨by omega, ?_⟩
    refine (hu _ p w5).mono ?_
    rintro e w7 ⟨rfl, rfl⟩
    refine ⟨_, rfl, fun hb => ?_, fun hb => ?_⟩
    · exact ⟨⟨rfl, j, by omega, rfl, hr.trans (by simp only [rootI, hb])⟩, by dsimp only; omega⟩
    · exact ⟨⟨rfl, j, by omega, rfl, hr.trans (by simp only [rootI, hb])⟩, by dsimp only; omega⟩
  · have h := of_decide_eq_false h
    have : k = 0 := by omega
    subst this
    rw [hr]; exact ⟨rfl, rfl⟩

abbrev qv (l : List Nat) : List Value := l.map (fun p : Nat => Value.int .u64 (p : Int))
theorem primes_mono (k : Nat) : ∀ d, primesTo k <+: primesTo (k + d)
  | 0 => List.prefix_refl _
  | d + 1 => by
    refine (primes_mono k d).trans ?_
    rw [← Nat.add_assoc, primesTo]
    split
    · exact List.prefix_append _ _
    · exact List.prefix_refl _
theorem primes_pos : ∀ k, ∀ q ∈ primesTo k, 2 ≤ q
  | 0, q, h => by cases h
  | k + 1, q, h => by
    rw [primesTo] at h
    split at h
    · rcases List.mem_append.1 h with h | h
      · exact primes_pos k q h
      · rw [List.mem_singleton] at h; omega
    · exact primes_pos k q h
theorem primes_le : ∀ k, ∀ q ∈ primesTo k, q ≤ k + 1
  | 0, q, h => by cases h
  | k + 1, q, h => by
    rw [primesTo] at h
    split at h
    · rcases List.mem_append.1 h with h | h
      · have := primes_le k q h; omega
      · rw [List.mem_singleton] at h; omega
    · have := primes_le k q h; omega
set_option maxRecDepth 100000 in
theorem primes_64 : (primesTo 310).length = 64 := by decide +kernel
theorem primes_spec (n : Nat) (hn : n ≤ 64) (w : World) : Calls Try.prog F_cartularyref02_primes #[.int .i64 (n : Int)] w fun e w' =>
    ∃ l : Sl, e = .returned (.slice l.a l.len l.cap) ∧ Own w' w.heap.size T_uint64 l (qv ((primesTo 310).take n)) ∧ Fr (fun _ => False) w w' := by
  refine vc_cartularyref02_primes_ok (R := fun v w' => ∃ l : Sl, v = .slice l.a l.len l.cap ∧ Own w' w.heap.size T_uint64 l (qv ((primesTo 310).take n)) ∧ Fr (fun _ => False) w w') ?_ (fun v w' ⟨l, h⟩ => ⟨l, by rw [h.1], h.2⟩)
  intro w1 hw1
  have o1 : Own w1 w.heap.size T_uint64 ⟨some ⟨w.heap.size, 0, none⟩, 0, 0⟩ [] := ⟨rfl, .inr ⟨w.heap.size, #[], rfl, Nat.le_refl _, hw1 ▸ alloc_new _ _, Nat.le_refl _, Nat.zero_le _, rfl, rfl⟩⟩
  have f1 : Fr (fun _ => False) w w1 := hw1 ▸ Fr.alloc _ _ _
  refine ⟨fun l p w' => ∃ k : Nat, k ≤ 310 ∧ p = (k : Int) + 2 ∧ (primesTo k).length ≤ n ∧ Own w' w.heap.size T_uint64 l (qv (primesTo k)) ∧ Fr (fun _ => False) w w', fun _ p _ => (312 - p).toNat, ⟨0, by decide, rfl, Nat.zero_le _, o1, f1⟩, ?_⟩
  rintro l p w6 ⟨k, hk, rfl, hkn, ol, f6⟩
  have hll : l.len = (primesTo k).length := by rw [ol.len, List.length_map]
  refine ⟨fun hlt => ?_, fun hge => ?_⟩
  · have hlt := of_decide_eq_true hlt
    have hk310 : k < 310 := by
      rcases Nat.lt_or_ge k 310 with h | h
      · exact h
      · have : k = 310 := by omega
        subst this
        have := primes_64; omega
    have e1 : IntKind.u64.wrap ((k : Int) + 2 + 1) = ((k + 1 : Nat) : Int) + 2 := by rw [wrap_u64 (by omega) (by omega)]; omega
    rw [e1]
    refine ⟨fun b j w' => w' = w6 ∧ ∃ m : Nat, m ≤ (primesTo k).length ∧ j = (m : Int) ∧ b = ((primesTo k).take m).all (fun q => (k + 2) % q != 0), fun _ j _ => (((primesTo k).length : Int) - j).toNat, ⟨rfl, 0, Nat.zero_le _, rfl, rfl⟩, ?_⟩
    rintro b j w11 ⟨rfl, m, hm, rfl, hb⟩
    have e2 : IntKind.i64.wrap ((m : Int) + 1) = ((m + 1 : Nat) : Int) := by rw [wrap_i64 (by omega) (by omega)]; omega
    refine ⟨fun hlt => ?_, fun hge => ?_⟩
    · have hlt := of_decide_eq_true hlt
      have hml : m < (primesTo k).length := by omega
      obtain ⟨x, hx, hc⟩ := ol.reads m (.int .u64 (((primesTo k)[m] : Nat) : Int)) (by simp [qv, hml])
      have hpos := primes_pos k _ (List.getElem_mem hml)
      have hstep : ((primesTo k).take (m + 1)).all (fun q => (k + 2) % q != 0) = (((primesTo k).take m).all (fun q => (k + 2) % q != 0) && ((k + 2) % (primesTo k)[m] != 0)) := by
        rw [List.take_succ_eq_append_getElem hml, List.all_append]; simp
      rw [e2]
      refine ⟨⟨by omega, by omega⟩, x, hx, _, by rw [Int.toNat_natCast, Nat.mul_one]; exact hc, fun hbt => ⟨by omega, ⟨rfl, m + 1, by omega, rfl, ?_⟩, by dsimp only; omega⟩, fun hbf => ⟨⟨rfl, m + 1, by omega, rfl, ?_⟩, by dsimp only; omega⟩⟩
      · rw [hstep, ← hb, hbt, Bool.true_and, Int.tmod_eq_emod_of_nonneg (by omega)]
        have hcast : ((k : Int) + 2) % (((primesTo k)[m] : Nat) : Int) = (((k + 2) % (primesTo k)[m] : Nat) : Int) := by rw [Int.natCast_emod]; rfl
        rw [hcast, Bool.eq_iff_iff]
        simp only [bne_iff_ne, ne_eq]
        omega
      · rw [hstep, ← hb, hbf, Bool.false_and]
    · have hge := of_decide_eq_false hge
      have : m = (primesTo k).length := by omega
      subst this
      rw [List.take_length] at hb
      refine ⟨fun hbt => ?_, fun hbf => ?_⟩
      · intro w14 hw14
        obtain ⟨w15, l16, hr, o16, f16⟩ := append_one elU64 ol (v := .int .u64 ((k : Int) + 2)) rfl (by rw [List.length_map]; unfold maxLen; omega) (by rw [List.length_map]; omega) f6.size hw14
        refine ⟨w15, l16, hr, ⟨k + 1, by omega, rfl, ?_, ?_, f6.trans f16 (fun q hq ⟨y, hy, e⟩ => by have := (ol.blk hy).1; omega)⟩, by dsimp only; omega⟩
        · rw [primesTo]
          simp only [← hb, hbt, List.length_append, List.length_singleton]; omega
        · rw [primesTo]
          simp only [← hb, hbt, qv, List.map_append, List.map_cons, List.map_nil]
          exact o16
      · refine ⟨⟨k + 1, by omega, rfl, ?_, ?_, f6⟩, by dsimp only; omega⟩
        · rw [primesTo]
          simp only [← hb, hbf]; exact hkn
        · rw [primesTo]
          simp only [← hb, hbf]; exact ol
  · have hge := of_decide_eq_false hge
    have hlen : (primesTo k).length = n := by omega
    have hp := primes_mono k (310 - k)
    rw [show k + (310 - k) = 310 by omega] at hp
    have := List.prefix_iff_eq_take.1 hp
    rw [hlen] at this
    rw [← this]
    exact ⟨l, rfl, ol, f6⟩

theorem root_bv (z : Int) : ((BitVec.ofInt 32 (IntKind.u32.wrap z)).toNat : Int) = IntKind.u32.wrap z := by
  rw [BitVec.toNat_ofInt, wrap_u32_mod]
  have h0 := Int.emod_nonneg z (show (4294967296 : Int) ≠ 0 by decide)
  have h1 := Int.emod_lt_of_pos z (show (0 : Int) < 4294967296 by decide)
  have : (z % 4294967296) % ((2 ^ 32 : Nat) : Int) = z % 4294967296 := Int.emod_eq_of_lt h0 h1
  rw [this]; omega
/-- 'Table'. -/
theorem ktable_spec (w : World) : Calls Try.prog F_cartularyref02_Table #[] w fun e w' => ∃ l : Sl, e = .returned (.slice l.a l.len l.cap) ∧ Own w' w.heap.size T_uint32 l (uv K256) ∧ Fr (fun _ => False) w w' := by
  refine vc_cartularyref02_Table_ok (R := fun v w' => ∃ l : Sl, v = .slice l.a l.len l.cap ∧ Own w' w.heap.size T_uint32 l (uv K256) ∧ Fr (fun _ => False) w w') ?_ (fun v w' ⟨l, h⟩ => ⟨l, by rw [h.1], h.2⟩)
  intro w1 hw1
  have o1 : Own w1 w.heap.size T_uint32 ⟨some ⟨w.heap.size, 0, none⟩, 0, 0⟩ [] := ⟨rfl, .inr ⟨w.heap.size, #[], rfl, Nat.le_refl _, hw1 ▸ alloc_new _ _, Nat.le_refl _, Nat.zero_le _, rfl, rfl⟩⟩
  have f1 : Fr (fun _ => False) w w1 := hw1 ▸ Fr.alloc _ _ _
  have hps := primes_spec 64 (by decide) w1
  rw [List.take_of_length_le (by rw [primes_64]; decide)] at hps
  have hK : K256 = (primesTo 310).map (fun p : Nat => BitVec.ofInt 32 (root3 (p : Int))) := rfl
  have primes_64 := primes_64
  rw [hK]
  clear hK
  generalize primesTo 310 = L at hps primes_64 ⊢
  refine hps.mono ?_
  rintro e w3 ⟨l4, rfl, o4, f3⟩
  refine ⟨l4, rfl, ?_⟩
  obtain ⟨K, hKd⟩ : ∃ K, L.map (fun p : Nat => BitVec.ofInt 32 (root3 (p : Int))) = K := ⟨_, rfl⟩
  rw [hKd]
  have hll : l4.len = 64 := by rw [o4.len, List.length_map, primes_64]
  have hb1 : w.heap.size < w1.heap.size := by rw [hw1]; simp
  have hKl : K.length = 64 := by rw [← hKd, List.length_map, primes_64]
  have hKget : ∀ (k : Nat) (h : k < L.length), K.take (k + 1) = K.take k ++ [BitVec.ofInt 32 (root3 ((L[k]'h : Nat) : Int))] := fun k h => by
    have hk : k < K.length := by rw [hKl, ← primes_64]; exact h
    have hg : K[k]'hk = BitVec.ofInt 32 (root3 ((L[k]'h : Nat) : Int)) := by subst hKd; simp only [List.getElem_map]
    rw [List.take_succ_eq_append_getElem hk, hg]
  refine ⟨fun l i w' => ∃ k : Nat, k ≤ 64 ∧ i = (k : Int) ∧ Own w' w.heap.size T_uint32 l (uv (K.take k)) ∧ (∀ y, l.a = some y → y.block < w1.heap.size ∨ w3.heap.size ≤ y.block) ∧ Own w' w1.heap.size T_uint64 l4 (qv L) ∧ Fr (fun _ => False) w w' ∧ w3.heap.size ≤ w'.heap.size, fun _ i _ => (64 - i).toNat,
    ⟨0, by decide, rfl, o1.keep f3 (by simp), fun y hy => by cases hy; exact .inl hb1, o4, f1.trans' f3, Nat.le_refl _⟩, ?_⟩
  rintro l i w9 ⟨k, hk, rfl, ol, hdis, o4', f9, hs9⟩
  refine ⟨fun hlt => ?_, fun hge => ?_⟩
  · have hlt := of_decide_eq_true hlt
    have hkl : k < L.length := by rw [primes_64]; omega
    have hkg := hKget k hkl
    obtain ⟨x, hx, hc⟩ := o4'.reads k (.int .u64 ((L[k]'hkl : Nat) : Int)) (by rw [qv, List.getElem?_map, List.getElem?_eq_getElem hkl]; rfl)
    have e1 : IntKind.i64.wrap ((k : Int) + 1) = ((k + 1 : Nat) : Int) := by rw [wrap_i64 (by omega) (by omega)]; omega
    rw [e1]
    refine ⟨⟨by omega, by omega⟩, x, hx, _, by rw [Int.toNat_natCast, Nat.mul_one]; exact hc, ?_⟩
    generalize L[k]'hkl = p at hkg
    refine (root_spec under3 3 under3_spec p w9).mono ?_
    rintro e w13 ⟨rfl, rfl⟩
    refine ⟨_, rfl, ?_⟩
    intro w15 hw15
    have hr3 : IntKind.u32.wrap (rootI under3 p 41 0) = ((BitVec.ofInt 32 (root3 (p : Int))).toNat : Int) := by rw [root3, root_bv]
    rw [hr3] at hw15
    have hlen : (uv (K.take k)).length = k := by rw [uv_len, List.length_take, hKl]; omega
    obtain ⟨w16, l17, hr, o17, f17, s17⟩ := append_one' elU32 ol (v := .int .u32 ((BitVec.ofInt 32 (root3 (p : Int))).toNat : Int)) rfl (by rw [hlen]; unfold maxLen; omega) (by rw [hlen]; omega) f9.size hw15
    have hX : ∀ q, Vc.At l q → w.heap.size ≤ q ∧ (q < w1.heap.size ∨ w3.heap.size ≤ q) := fun q ⟨y, hy, e⟩ => by rw [e]; exact ⟨(ol.blk hy).1, hdis y hy⟩
    have o4b : ∀ x, l4.a = some x → w1.heap.size ≤ x.block ∧ x.block < w3.heap.size := fun x hx => o4.blk hx
    refine ⟨w16, l17, hr, ⟨k + 1, by omega, rfl, ?_, ?_, o4'.keep f17 (fun x hx h => by have := hX _ h; have := o4b x hx; omega), f9.trans f17 (fun q hq h => by have := (hX q h).1; omega), by have := f17.size; omega⟩, by dsimp only; omega⟩
    · rw [hkg, uv, List.map_append]; exact o17
    · intro y hy
      rcases s17 y hy with ⟨z, hz, hzb⟩ | hn
      · rw [← hzb]; exact hdis z hz
      · exact .inr (by omega)
  · have hge := of_decide_eq_false hge
    have : k = 64 := by omega
    subst this
    rw [List.take_of_length_le (by rw [hKl]; decide)] at ol
    exact ⟨l, rfl, ol, f9⟩
end Go.Proofs.Ytcboiljbkkleiaa
