/- What the reference's functions on codes do, and the law's own. Conditions: the lists are short enough for a slice to hold. -/
import Derived.Test.YtofejgaanpaieaaHuffP
import Derived.Test.YtofejgaanpaieaaR3
set_option linter.unusedVariables false
namespace Go.Proofs.Ytofejgaanpaieaa
open Go Vc BitsM HuffM Go.Proofs

/-- 'begins'. -/
theorem begins_spec {a a' : Option Addr} {n n' c c' : Nat} {B A : List Bool} {w : World} (hB : Reads w a (bl B)) (hn : B.length = n) (hA : Reads w a' (bl A)) (hn' : A.length = n') (hs : A.length ≤ 1099511627776) :
    Calls Try.prog F_cartularyref04_begins #[.slice a n c, .slice a' n' c'] w fun e w' => e = .returned (.bool (decide (A <+: B))) ∧ Drew w w' := by
  subst hn hn'
  refine vc_cartularyref04_begins_ok (R := fun v w' => v = .bool (decide (A <+: B)) ∧ Drew w w') ?_ (fun v w' h => ⟨by rw [h.1], h.2⟩)
  refine ⟨fun hgt => ?_, fun hle => ?_⟩
  · have hgt := of_decide_eq_true hgt
    rw [decide_eq_false (fun h : A <+: B => by have := h.length_le; omega)]
    exact ⟨rfl, .refl _⟩
  have hle := of_decide_eq_false hle
  refine ⟨fun i w' => ∃ k : Nat, k ≤ A.length ∧ i = (k : Int) ∧ A.take k = B.take k ∧ Drew w w', fun i _ => ((A.length : Int) - i).toNat, ⟨0, Nat.zero_le _, rfl, rfl, .refl _⟩, ?_⟩
  rintro i w4 ⟨k, hk, rfl, he, d⟩
  refine ⟨fun hlt => ?_, fun hge => ?_⟩
  · have hlt := of_decide_eq_true hlt
    have hkA : k < A.length := by omega
    have hkB : k < B.length := by omega
    obtain ⟨x, hx, hcx⟩ := hA _ _ (bl_get (List.getElem?_eq_getElem hkA))
    obtain ⟨y, hy, hcy⟩ := hB _ _ (bl_get (List.getElem?_eq_getElem hkB))
    refine ⟨⟨by omega, by omega⟩, x, hx, _, by rw [Int.toNat_natCast, Nat.mul_one, d.cell]; exact hcx, ⟨by omega, by omega⟩, y, hy, _, by rw [Int.toNat_natCast, Nat.mul_one, d.cell]; exact hcy, fun w9 d9 => ⟨fun hne => ?_, fun heq => ?_⟩⟩
    · have hne : ¬ A[k] = B[k] := by simpa using hne
      rw [decide_eq_false]
      · exact ⟨rfl, d.trans d9⟩
      rintro ⟨r, rfl⟩
      exact hne (by rw [List.getElem_append_left hkA])
    · have heq : A[k] = B[k] := by simpa using heq
      have e1 : IntKind.i64.wrap ((k : Int) + 1) = ((k + 1 : Nat) : Int) := by rw [wrap_i64 (by omega) (by omega)]; omega
      rw [e1]
      refine ⟨⟨k + 1, by omega, rfl, ?_, d.trans d9⟩, by dsimp only; omega⟩
      rw [List.take_succ_eq_append_getElem hkA, List.take_succ_eq_append_getElem hkB, he, heq]
  · have hge := of_decide_eq_false hge
    have : k = A.length := by omega
    subst this
    rw [List.take_length] at he
    rw [decide_eq_true (List.prefix_iff_eq_take.2 he)]
    exact ⟨rfl, d⟩

/-- 'Check'. -/
theorem check_spec {a : Option Addr} {zs : List Int} {n c : Nat} {w : World} (hr : Reads w a (iv zs)) (hn : zs.length = n) :
    Calls Try.prog F_cartularyref04_Check #[.slice a n c] w fun e w' => e = .returned (.int .i64 ((chk zs : Nat) : Int)) ∧ w' = w := by
  subst hn
  refine vc_cartularyref04_Check_ok (R := fun v w' => v = .int .i64 ((chk zs : Nat) : Int) ∧ w' = w) ?_ (fun v w' h => ⟨by rw [h.1], h.2⟩)
  refine ⟨fun hgt => ?_, fun hle => ?_⟩
  · have hgt := of_decide_eq_true hgt
    have hc : chk zs = 2 := by unfold chk; rw [if_pos (by omega)]
    rw [hc]
    exact ⟨rfl, rfl⟩
  have hle := of_decide_eq_false hle
  obtain ⟨ls, hlsd⟩ : ∃ ls, zs.map Int.toNat = ls := ⟨_, rfl⟩
  have hls : ls.length = zs.length := by rw [← hlsd]; exact List.length_map ..
  have hget : ∀ {k : Nat}, k < zs.length → ls[k]? = some (zs.getD k 0).toNat := fun {k} hk => by
    simp only [← hlsd, List.getElem?_map, List.getElem?_eq_getElem hk, Option.map_some, List.getD_eq_getElem?_getD, Option.getD_some]
  have hivget : ∀ {k : Nat}, k < zs.length → (iv zs)[k]? = some (.int .i64 (zs.getD k 0)) := fun {k} hk => by
    simp only [iv, List.getElem?_map, List.getElem?_eq_getElem hk, Option.map_some, List.getD_eq_getElem?_getD, Option.getD_some]
  have pow_le : ∀ m, 2 ^ (15 - m) ≤ 32768 := fun m => Nat.pow_le_pow_right (n := 2) (by decide) (show 15 - m ≤ 15 by omega)
  refine ⟨fun sum codes ones i w' => w' = w ∧ ∃ k : Nat, k ≤ zs.length ∧ i = (k : Int) ∧ (∀ z ∈ zs.take k, 0 ≤ z ∧ z ≤ 15) ∧ sum = ((fin (ls.take k) 15 : Nat) : Int) ∧ codes = (((sorted (ls.take k) 15).length : Nat) : Int) ∧
      ones = (((ls.take k).count 1 : Nat) : Int) ∧ fin (ls.take k) 15 ≤ 32768 * k, fun _ _ _ i _ => ((zs.length : Int) - i).toNat,
    ⟨rfl, 0, Nat.zero_le _, rfl, by simp, by simp [fin_nil], by simp [sorted_length], by simp, by simp [fin_nil]⟩, ?_⟩
  rintro sum codes ones i w7 ⟨rfl, k, hk, rfl, hz, rfl, rfl, rfl, hb⟩
  have hsl := sorted_le (ls.take k) 15
  have hcl : (ls.take k).count 1 ≤ (ls.take k).length := List.count_le_length
  have htl : (ls.take k).length ≤ 320 := by rw [List.length_take]; omega
  refine ⟨fun hlt => ?_, fun hge => ?_⟩
  · have hlt := of_decide_eq_true hlt
    have hkl : k < zs.length := by omega
    obtain ⟨x, hx, hcx⟩ := hr k _ (hivget hkl)
    have hmem : zs.getD k 0 ∈ zs := by rw [List.getD_eq_getElem?_getD, List.getElem?_eq_getElem hkl]; exact List.getElem_mem hkl
    have hgk := hget hkl
    have htk : zs.take (k + 1) = zs.take k ++ [zs.getD k 0] := by
      rw [List.take_succ_eq_append_getElem hkl, List.getD_eq_getElem?_getD, List.getElem?_eq_getElem hkl]; rfl
    have htk2 : ls.take (k + 1) = ls.take k ++ [(zs.getD k 0).toNat] := by
      simp only [← hlsd, ← List.map_take, htk, List.map_append, List.map_cons, List.map_nil]
    refine ⟨⟨by omega, by omega⟩, x, hx, zs.getD k 0, by rw [Int.toNat_natCast, Nat.mul_one]; exact hcx, ?_⟩
    generalize zs.getD k 0 = z at hmem hgk htk htk2
    have bad : z < 0 ∨ 15 < z → chk zs = 1 := fun h => by
      unfold chk
      rw [if_neg (by omega), if_pos ⟨z, hmem, h⟩]
    refine ⟨fun h => ?_, fun h0 => ⟨fun h => ?_, fun h1 => ?_⟩⟩
    · rw [bad (.inl (of_decide_eq_true h))]; exact ⟨rfl, rfl⟩
    · rw [bad (.inr (of_decide_eq_true h))]; exact ⟨rfl, rfl⟩
    have h0 := of_decide_eq_false h0
    have h1 := of_decide_eq_false h1
    obtain ⟨m, rfl⟩ := Int.eq_ofNat_of_zero_le (show 0 ≤ z by omega)
    rw [Int.toNat_natCast] at hgk htk2
    have hm : m ≤ 15 := by omega
    have hzz : ∀ z ∈ zs.take (k + 1), 0 ≤ z ∧ z ≤ 15 := fun y hy => by
      rw [htk, List.mem_append] at hy
      rcases hy with hy | hy
      · exact hz y hy
      · rw [List.mem_singleton] at hy; omega
    have e1 : IntKind.i64.wrap ((k : Int) + 1) = ((k + 1 : Nat) : Int) := by rw [wrap_i64 (by omega) (by omega)]; omega
    have e2 : IntKind.i64.wrap ((((sorted (ls.take k) 15).length : Nat) : Int) + 1) = (((sorted (ls.take k) 15).length + 1 : Nat) : Int) := by rw [wrap_i64 (by omega) (by omega)]; omega
    have e3 : IntKind.i64.wrap ((((ls.take k).count 1 : Nat) : Int) + 1) = (((ls.take k).count 1 + 1 : Nat) : Int) := by rw [wrap_i64 (by omega) (by omega)]; omega
    have hfin : fin (ls.take (k + 1)) 15 = fin (ls.take k) 15 + (if 1 ≤ m ∧ m ≤ 15 then 2 ^ (15 - m) else 0) := by rw [htk2, fin_append, fin_cons, fin_nil, Nat.zero_add]
    have hsor : (sorted (ls.take (k + 1)) 15).length = (sorted (ls.take k) 15).length + (if 1 ≤ m then 1 else 0) := by
      have h1 : [m].countP (fun x => decide (1 ≤ x ∧ x ≤ 15)) = if 1 ≤ m then 1 else 0 := by
        by_cases h : 1 ≤ m
        · simp [h, hm]
        · simp [h]
      rw [sorted_length, sorted_length, htk2, List.countP_append, h1]
    have hcnt : (ls.take (k + 1)).count 1 = (ls.take k).count 1 + (if m = 1 then 1 else 0) := by
      have h1 : [m].count 1 = if m = 1 then 1 else 0 := by
        by_cases h : m = 1
        · subst h; rfl
        · simp [h]
      rw [htk2, List.count_append, h1]
    have hpl := pow_le m
    refine ⟨fun hpos => ?_, fun hz0 => ?_⟩
    · have hpos := of_decide_eq_true hpos
      rw [if_pos (by omega)] at hfin hsor
      refine ⟨fun part i w' => w' = w7 ∧ ∃ j : Nat, j ≤ m ∧ i = (j : Int) ∧ part = ((2 ^ (15 - j) : Nat) : Int), fun _ i _ => ((m : Int) - i).toNat, ⟨rfl, 0, Nat.zero_le _, rfl, rfl⟩, ?_⟩
      rintro part i w14 ⟨rfl, j, hj, rfl, rfl⟩
      refine ⟨fun hjm => ?_, fun hjm => ?_⟩
      · have hjm := of_decide_eq_true hjm
        have hpj := pow_le j
        have e4 : IntKind.i64.wrap (Int.tdiv ((2 ^ (15 - j) : Nat) : Int) 2) = ((2 ^ (15 - (j + 1)) : Nat) : Int) := by
          have hp : 2 ^ (15 - j) = 2 * 2 ^ (15 - (j + 1)) := by rw [show 15 - j = (15 - (j + 1)) + 1 by omega, Nat.pow_succ']
          have := pow_le (j + 1)
          rw [hp, Int.tdiv_eq_ediv_of_nonneg (by omega)]
          generalize 2 ^ (15 - (j + 1)) = q at this
          rw [wrap_i64 (by omega) (by omega)]; omega
        have e5 : IntKind.i64.wrap ((j : Int) + 1) = ((j + 1 : Nat) : Int) := by rw [wrap_i64 (by omega) (by omega)]; omega
        rw [e4, e5]
        exact ⟨by decide, ⟨rfl, j + 1, by omega, rfl, rfl⟩, by dsimp only; omega⟩
      · have hjm := of_decide_eq_false hjm
        have : j = m := by omega
        subst this
        have e6 : IntKind.i64.wrap (((fin (ls.take k) 15 : Nat) : Int) + ((2 ^ (15 - j) : Nat) : Int)) = ((fin (ls.take k) 15 + 2 ^ (15 - j) : Nat) : Int) := by
          generalize 2 ^ (15 - j) = q at hpl
          rw [wrap_i64 (by omega) (by omega)]; omega
        rw [e1, e2, e3, e6, ← hfin, ← hsor]
        refine ⟨fun h => ?_, fun h => ?_⟩
        · have h : j = 1 := by have : (j : Int) = 1 := by simpa using h
                               omega
          rw [if_pos h] at hcnt
          rw [← hcnt]
          exact ⟨⟨rfl, k + 1, by omega, rfl, hzz, rfl, rfl, rfl, by omega⟩, by dsimp only; omega⟩
        · have h : ¬ j = 1 := fun hj => by subst hj; simp at h
          simp only [if_neg h, Nat.add_zero] at hcnt
          rw [← hcnt]
          exact ⟨⟨rfl, k + 1, by omega, rfl, hzz, rfl, rfl, rfl, by omega⟩, by dsimp only; omega⟩
    · have hz0 := of_decide_eq_false hz0
      have : m = 0 := by omega
      subst this
      simp at hfin hsor hcnt
      refine ⟨fun h => absurd h (by decide), fun _ => ?_⟩
      rw [e1, ← hfin, ← hsor, ← hcnt]
      exact ⟨⟨rfl, k + 1, by omega, rfl, hzz, rfl, rfl, rfl, by omega⟩, by dsimp only; omega⟩
  have hge := of_decide_eq_false hge
  have hkk : k = zs.length := by omega
  subst hkk
  rw [List.take_length] at hz
  have htl : ls.take zs.length = ls := List.take_of_length_le (by omega)
  rw [htl]
  have hno : ¬ ∃ z ∈ zs, z < 0 ∨ 15 < z := fun ⟨z, hm, h⟩ => by have := hz z hm; omega
  have hchk : chk zs = if 32768 < fin ls 15 ∨ (fin ls 15 < 32768 ∧ 0 < (sorted ls 15).length ∧ ¬ ((sorted ls 15).length = 1 ∧ ls.count 1 = 1)) then 4 else 0 := by
    unfold chk; rw [if_neg (by omega), if_neg hno, hlsd]
  rw [hchk]
  refine ⟨fun h => ?_, fun h => ⟨fun h2 => ⟨fun h3 => ⟨fun h4 => ⟨fun h5 => ?_, fun h5 => ?_⟩, fun h4 => ?_⟩, fun h3 => ?_⟩, fun h2 => ?_⟩⟩
  · have h := of_decide_eq_true h
    rw [if_pos (by omega)]; exact ⟨rfl, rfl⟩
  · have h := of_decide_eq_false h; have h2 := of_decide_eq_true h2; have h3 := of_decide_eq_true h3
    have h4 : (((sorted ls 15).length : Nat) : Int) = 1 := by simpa using h4
    have h5 : ¬ ls.count 1 = 1 := fun h => by rw [h] at h5; exact absurd h5 (by decide)
    rw [if_pos (by omega)]; exact ⟨rfl, rfl⟩
  · have h := of_decide_eq_false h; have h2 := of_decide_eq_true h2; have h3 := of_decide_eq_true h3
    have h4 : (((sorted ls 15).length : Nat) : Int) = 1 := by simpa using h4
    have h5 : (((ls.count 1 : Nat) : Int) == 1) = true := by simpa using h5
    have h5 : ((ls.count 1 : Nat) : Int) = 1 := by simpa using h5
    rw [if_neg (by omega)]; exact ⟨rfl, rfl⟩
  · have h := of_decide_eq_false h; have h2 := of_decide_eq_true h2; have h3 := of_decide_eq_true h3
    have h4 : ¬ (((sorted ls 15).length : Nat) : Int) = 1 := by simpa using h4
    rw [if_pos (by omega)]; exact ⟨rfl, rfl⟩
  · have h := of_decide_eq_false h; have h2 := of_decide_eq_true h2; have h3 := of_decide_eq_false h3
    rw [if_neg (by omega)]; exact ⟨rfl, rfl⟩
  · have h := of_decide_eq_false h; have h2 := of_decide_eq_false h2
    rw [if_neg (by omega)]; exact ⟨rfl, rfl⟩
end Go.Proofs.Ytofejgaanpaieaa
