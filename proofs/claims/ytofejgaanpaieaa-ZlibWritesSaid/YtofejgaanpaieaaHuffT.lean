/- What New, Code and Read of the package huff do. Conditions: the lists are short enough for a slice to hold; a table and a reader are in order. -/
import Derived.Test.YtofejgaanpaieaaHuffR
import Derived.Test.YtofejgaanpaieaaRd
import Derived.Test.YtofejgaanpaieaaVcSl
import Derived.Test.YtofejgaanpaieaaHuff
set_option linter.unusedVariables false
namespace Go.Proofs.Ytofejgaanpaieaa
open Go Vc BitsM HuffM Go.Proofs

theorem elInt : El Try.prog T_S_int T_int (.int .i64 0) 8 := ⟨by kernel_rfl, by kernel_rfl, rfl⟩
abbrev iv (l : List Int) : List Value := l.map (Value.int .i64)
abbrev nv (l : List Nat) : List Value := l.map (fun x : Nat => Value.int .i64 (x : Int))
theorem iv_nats {zs : List Int} (h : ∀ z ∈ zs, 0 ≤ z) : iv zs = nv (zs.map Int.toNat) := by
  simp only [iv, nv, List.map_map]
  exact List.map_congr_left fun z hz => by simp only [Function.comp_apply]; congr 1; have := h z hz; omega
theorem one_iv (l : List Int) : ∀ u ∈ iv l, u.oneCell' = true := fun u h => by
  obtain ⟨b, _, rfl⟩ := List.mem_map.1 h; rfl

/-- A table's cells. -/
def tcells (l1 : Sl) (c : Nat → Nat) (l2 : Sl) : Array Value :=
  #[.slice l1.a l1.len l1.cap, .int .i64 (c 0), .int .i64 (c 1), .int .i64 (c 2), .int .i64 (c 3), .int .i64 (c 4), .int .i64 (c 5), .int .i64 (c 6), .int .i64 (c 7),
    .int .i64 (c 8), .int .i64 (c 9), .int .i64 (c 10), .int .i64 (c 11), .int .i64 (c 12), .int .i64 (c 13), .int .i64 (c 14), .int .i64 (c 15), .slice l2.a l2.len l2.cap]
theorem tcells_get (l1 : Sl) (c : Nat → Nat) (l2 : Sl) : ∀ n, n < 16 → (tcells l1 c l2)[1 + n]? = some (.int .i64 (c n)) := by
  intro n h
  match n, h with
  | 0, _ | 1, _ | 2, _ | 3, _ | 4, _ | 5, _ | 6, _ | 7, _ | 8, _ | 9, _ | 10, _ | 11, _ | 12, _ | 13, _ | 14, _ | 15, _ => rfl
  | n + 16, h => omega
theorem tcells_set (l1 : Sl) (c : Nat → Nat) (l2 : Sl) (x : Nat) : ∀ n, n < 16 → (tcells l1 c l2).setIfInBounds (1 + n) (.int .i64 x) = tcells l1 (fun m => if m = n then x else c m) l2 := by
  intro n h
  match n, h with
  | 0, _ | 1, _ | 2, _ | 3, _ | 4, _ | 5, _ | 6, _ | 7, _ | 8, _ | 9, _ | 10, _ | 11, _ | 12, _ | 13, _ | 14, _ | 15, _ => rfl
  | n + 16, h => omega
theorem tcells_congr (l1 : Sl) {c d : Nat → Nat} (l2 : Sl) (h : ∀ n, n < 16 → c n = d n) : tcells l1 c l2 = tcells l1 d l2 := by
  simp only [tcells, h 0 (by decide), h 1 (by decide), h 2 (by decide), h 3 (by decide), h 4 (by decide), h 5 (by decide), h 6 (by decide), h 7 (by decide), h 8 (by decide), h 9 (by decide), h 10 (by decide), h 11 (by decide),
    h 12 (by decide), h 13 (by decide), h 14 (by decide), h 15 (by decide)]

/-- A table that is being made. -/
structure TabW (w : World) (lo b : Nat) (l1 : Sl) (zs : List Int) (c : Nat → Nat) (xs : List Nat) (l2 : Sl) : Prop where
  hlo : lo ≤ b
  blk : w.heap[b]? = some (.cells (tcells l1 c l2) T_huff_Table)
  o1 : Own w lo T_int l1 (iv zs)
  b1 : ∀ x, l1.a = some x → x.block < b
  o2 : Own w (b + 1) T_int l2 (nv xs)
section
variable {w w2 : World} {lo b : Nat} {l1 : Sl} {zs : List Int} {c : Nat → Nat} {xs : List Nat} {l2 : Sl}
theorem TabW.cnt (h : TabW w lo b l1 zs c xs l2) {n : Nat} (hn : n < 16) : w.cell? (Addr.add ⟨b, 1, none⟩ (n * 1)) = some (.int .i64 (c n)) := by
  rw [add_lit, cell_blk h.blk, Nat.mul_one, tcells_get _ _ _ n hn]
theorem TabW.c0 (h : TabW w lo b l1 zs c xs l2) : w.cell? ⟨b, 0, none⟩ = some (.slice l1.a l1.len l1.cap) := by rw [cell_blk h.blk]; rfl
theorem TabW.c17 (h : TabW w lo b l1 zs c xs l2) : w.cell? ⟨b, 17, none⟩ = some (.slice l2.a l2.len l2.cap) := by rw [cell_blk h.blk]; rfl
theorem TabW.keep (h : TabW w lo b l1 zs c xs l2) {X : Nat → Prop} (hf : Fr X w w2) (hx : ∀ k, lo ≤ k → k < w.heap.size → ¬ X k) : TabW w2 lo b l1 zs c xs l2 :=
  ⟨h.hlo, hf.keep h.blk (hx b h.hlo (lt_blk h.blk)), h.o1.keep hf (fun x hxx => hx _ (h.o1.blk hxx).1 (h.o1.blk hxx).2), h.b1, h.o2.keep hf (fun x hxx => hx _ (by have := (h.o2.blk hxx).1; have := h.hlo; omega) (h.o2.blk hxx).2)⟩
theorem TabW.keep2 (ht : TabW w lo b l1 zs c xs l2) {hi : Nat} (hb : b < hi) (h2 : ∀ x, l2.a = some x → x.block < hi) {X : Nat → Prop} (hf : Fr X w w2) (hx : ∀ k, lo ≤ k → k < hi → ¬ X k) : TabW w2 lo b l1 zs c xs l2 :=
  ⟨ht.hlo, hf.keep ht.blk (hx b ht.hlo hb), ht.o1.keep hf fun x hxx => hx _ (ht.o1.blk hxx).1 (by have := ht.b1 x hxx; omega), ht.b1, ht.o2.keep hf fun x hxx => hx _ (by have := (ht.o2.blk hxx).1; have := ht.hlo; omega) (h2 x hxx)⟩
end

/-- What is said of lengths: nought, or the error. -/
def chk (zs : List Int) : Nat :=
  if 320 < zs.length then 2
  else if ∃ z ∈ zs, z < 0 ∨ 15 < z then 1
  else if 32768 < fin (zs.map Int.toNat) 15 ∨ (fin (zs.map Int.toNat) 15 < 32768 ∧ 0 < (sorted (zs.map Int.toNat) 15).length ∧ ¬ ((sorted (zs.map Int.toNat) 15).length = 1 ∧ (zs.map Int.toNat).count 1 = 1)) then 4
  else 0

/-- A finished table of codes, whose blocks lie from lo up to hi. -/
structure Tab (w : World) (lo hi b : Nat) (ls : List Nat) : Prop where
  fits : Fits ls
  gap : Full ls ∨ (sorted ls 15).length = 0 ∨ ((sorted ls 15).length = 1 ∧ ls.count 1 = 1)
  small : ls.length ≤ 320
  at_ : ∃ l1 l2, TabW w lo b l1 (ls.map Int.ofNat) (fun n => ls.count n) (sorted ls 15) l2 ∧ b < hi ∧ ∀ x, l2.a = some x → x.block < hi
theorem Tab.keep {w w2 : World} {lo hi b : Nat} {ls : List Nat} (h : Tab w lo hi b ls) {X : Nat → Prop} (hf : Fr X w w2) (hx : ∀ k, lo ≤ k → k < hi → ¬ X k) : Tab w2 lo hi b ls := by
  obtain ⟨l1, l2, ht, hb, h2⟩ := h.at_
  exact ⟨h.fits, h.gap, h.small, l1, l2, ht.keep2 hb h2 hf hx, hb, h2⟩
theorem Tab.lt {w : World} {lo hi b : Nat} {ls : List Nat} (h : Tab w lo hi b ls) : lo ≤ b ∧ b < hi := by
  obtain ⟨l1, l2, ht, hb, h2⟩ := h.at_; exact ⟨ht.hlo, hb⟩
theorem Tab.drew {w w2 : World} {lo hi b : Nat} {ls : List Nat} (h : Tab w lo hi b ls) (d : Drew w w2) : Tab w2 lo hi b ls := h.keep (.drew (fun _ => False) d) (by simp)

theorem count_take_step' (ls : List Nat) (n : Nat) {s m : Nat} (h : ls[s]? = some m) : (ls.take (s + 1)).count n = (ls.take s).count n + (if m = n then 1 else 0) := by
  obtain ⟨h2, h3⟩ := List.getElem?_eq_some_iff.1 h
  rw [List.take_succ_eq_append_getElem h2, List.count_append, h3]
  by_cases hm : m = n
  · subst hm; simp
  · simp [hm]
/-- The symbols below s whose codes have n bits. -/
def symsTo (ls : List Nat) (n s : Nat) : List Nat := (List.range s).filter (fun i => ls[i]? == some n)
theorem symsTo_all (ls : List Nat) (n : Nat) : symsTo ls n ls.length = syms ls n := rfl
theorem symsTo_succ (ls : List Nat) (n s m : Nat) (h : ls[s]? = some m) : symsTo ls n (s + 1) = symsTo ls n s ++ (if m = n then [s] else []) := by
  rw [symsTo, symsTo, List.range_succ, List.filter_append]
  congr 1
  by_cases hm : m = n
  · subst hm; simp [h]
  · simp [h, hm]

theorem hnew_spec {a : Option Addr} {zs : List Int} {n c : Nat} {w : World} (hr : Reads w a (iv zs)) (hn : zs.length = n) (ha : ∀ x, a = some x → x.block < w.heap.size) :
    Calls Try.prog F_huff_New #[.slice a n c] w fun e w' =>
      ((chk zs ≠ 0 ∧ e = .returned (.tuple #[.pointer none, .int .i64 ((chk zs : Nat) : Int)])) ∨
        (chk zs = 0 ∧ ∃ b, e = .returned (.tuple #[.pointer (some ⟨b, 0, none⟩), .int .i64 0]) ∧ Tab w' w.heap.size w'.heap.size b (zs.map Int.toNat))) ∧ Fr (fun _ => False) w w' := by
  subst hn
  refine vc_huff_New_ok (R := fun v w' => ((chk zs ≠ 0 ∧ v = .tuple #[.pointer none, .int .i64 ((chk zs : Nat) : Int)]) ∨
        (chk zs = 0 ∧ ∃ b, v = .tuple #[.pointer (some ⟨b, 0, none⟩), .int .i64 0] ∧ Tab w' w.heap.size w'.heap.size b (zs.map Int.toNat))) ∧ Fr (fun _ => False) w w') ?_ ?_
  rotate_left
  · rintro v w' ⟨h | h, hf⟩
    · exact ⟨.inl ⟨h.1, by rw [h.2]⟩, hf⟩
    · obtain ⟨h0, b, hv, ht⟩ := h
      exact ⟨.inr ⟨h0, b, by rw [hv], ht⟩, hf⟩
  refine ⟨fun hgt => ?_, fun hle => ?_⟩
  · have hgt := of_decide_eq_true hgt
    have hc : chk zs = 2 := by unfold chk; rw [if_pos (by omega)]
    rw [hc]
    exact ⟨.inl ⟨by decide, rfl⟩, .refl _ _⟩
  have hle := of_decide_eq_false hle
  have hlen : zs.length ≤ 320 := by omega
  obtain ⟨w1, l1, hr1, ho1, hf1⟩ := append_all elInt (Own.nil w w.heap.size T_int) c hr (one_iv zs) (by simp [maxLen]; omega) (by simp; omega) (Nat.le_refl _) (m := zs.length) (by simp)
  rw [List.nil_append] at ho1
  refine ⟨w1, l1, hr1, ?_⟩
  intro w3 hw3
  have hfw1 : Fr (fun _ => False) w w1 := hf1.mono fun k hk ⟨y, hy, _⟩ => by cases hy
  have hf3 : Fr (fun _ => False) w1 w3 := hw3 ▸ Fr.alloc _ _ _
  have hfw3 := hfw1.trans' hf3
  generalize hB : w1.heap.size = B
  have hblk3 : w3.heap[B]? = some (.cells (tcells l1 (fun n => (([] : List Nat)).count n) ⟨none, 0, 0⟩) T_huff_Table) := by rw [hw3, ← hB]; exact alloc_new _ _
  have hb1 : ∀ x, l1.a = some x → x.block < B := fun x hx => by rw [← hB]; exact (ho1.blk hx).2
  have hloB : w.heap.size ≤ B := by rw [← hB]; exact hfw1.size
  have hat : ∀ {wx : World}, Fr (fun _ => False) w wx → Reads wx a (iv zs) := fun {wx} hf => hr.keep hf (by simp)
  let ls := zs.map Int.toNat
  have hls : ls.length = zs.length := List.length_map ..
  have hget : ∀ {k : Nat}, k < zs.length → ls[k]? = some (zs.getD k 0).toNat := fun {k} hk => by
    simp only [ls, List.getElem?_map, List.getElem?_eq_getElem hk, Option.map_some, List.getD_eq_getElem?_getD, Option.getD_some]
  have hivget : ∀ {k : Nat}, k < zs.length → (iv zs)[k]? = some (.int .i64 (zs.getD k 0)) := fun {k} hk => by
    simp only [iv, List.getElem?_map, List.getElem?_eq_getElem hk, Option.map_some, List.getD_eq_getElem?_getD, Option.getD_some]
  refine ⟨fun i w7 => ∃ k : Nat, k ≤ zs.length ∧ i = (k : Int) ∧ (∀ z ∈ zs.take k, 0 ≤ z ∧ z ≤ 15) ∧ TabW w7 w.heap.size B l1 zs (fun n => (ls.take k).count n) [] ⟨none, 0, 0⟩ ∧ Fr (fun _ => False) w w7, fun i _ => ((zs.length : Int) - i).toNat,
    ⟨0, Nat.zero_le _, rfl, by simp, ⟨hloB, hblk3, ho1.keep hf3 (by simp), hb1, Own.nil _ _ _⟩, hfw3⟩, ?_⟩
  rintro i w7 ⟨k, hk, rfl, hz, ht, hf⟩
  refine ⟨fun hlt => ?_, fun hge => ?_⟩
  · have hlt := of_decide_eq_true hlt
    have hkl : k < zs.length := by omega
    obtain ⟨x, hx, hcx⟩ := hat hf k _ (hivget hkl)
    have hmem : zs.getD k 0 ∈ zs := by rw [List.getD_eq_getElem?_getD, List.getElem?_eq_getElem hkl]; exact List.getElem_mem hkl
    have hgk := hget hkl
    have htk : zs.take (k + 1) = zs.take k ++ [zs.getD k 0] := by
      rw [List.take_succ_eq_append_getElem hkl, List.getD_eq_getElem?_getD, List.getElem?_eq_getElem hkl]; rfl
    refine ⟨⟨by omega, by omega⟩, x, hx, zs.getD k 0, by rw [Int.toNat_natCast, Nat.mul_one]; exact hcx, ?_⟩
    generalize zs.getD k 0 = z at hmem hgk htk
    have bad : z < 0 ∨ 15 < z → chk zs = 1 := fun h => by
      unfold chk
      rw [if_neg (by omega), if_pos ⟨z, hmem, h⟩]
    refine ⟨fun h => ?_, fun h0 => ⟨fun h => ?_, fun h1 => ?_⟩⟩
    · rw [bad (.inl (of_decide_eq_true h))]; exact ⟨.inl ⟨by decide, rfl⟩, hf⟩
    · rw [bad (.inr (of_decide_eq_true h))]; exact ⟨.inl ⟨by decide, rfl⟩, hf⟩
    have h0 := of_decide_eq_false h0
    have h1 := of_decide_eq_false h1
    intro w10 d10
    have ht10 := ht.keep (.drew (fun _ => False) d10) (by simp)
    obtain ⟨m, rfl⟩ := Int.eq_ofNat_of_zero_le (show 0 ≤ z by omega)
    rw [Int.toNat_natCast] at hgk ⊢
    have hm : m < 16 := by omega
    have hcn := List.count_le_length (a := m) (l := ls.take k)
    have hcl : (ls.take k).length ≤ 320 := by rw [List.length_take]; omega
    refine ⟨⟨by omega, by omega⟩, _, ht10.cnt hm, ⟨by omega, by omega⟩, ?_, ?_⟩
    · rw [add_lit]
      exact wr_blk ht10.blk (by simp [tcells]; omega)
    intro w12 hw12
    have e1 : IntKind.i64.wrap (((ls.take k).count m : Nat) + 1 : Int) = (((ls.take k).count m + 1 : Nat) : Int) := by rw [wrap_i64 (by omega) (by omega)]; omega
    have e2 : IntKind.i64.wrap ((k : Int) + 1) = ((k + 1 : Nat) : Int) := by rw [wrap_i64 (by omega) (by omega)]; omega
    rw [e1, add_lit, Nat.mul_one] at hw12
    have hb12 := set_blk ht10.blk (1 + m) (.int .i64 (((ls.take k).count m + 1 : Nat) : Int))
    rw [← hw12, tcells_set _ _ _ _ m hm] at hb12
    have hf12 : Fr (· = B) w10 w12 := hw12 ▸ Fr.set (· = B) _ (a := ⟨B, 1 + m, none⟩) _ rfl
    rw [e2]
    refine ⟨⟨k + 1, by omega, rfl, ?_, ⟨hloB, ?_, ht10.o1.keep hf12 (fun y hy => by have := hb1 y hy; omega), hb1, Own.nil _ _ _⟩, (hf.trans' (.drew _ d10)).trans hf12 (fun q hq h => by omega)⟩, by dsimp only; omega⟩
    · intro y hy
      rw [htk, List.mem_append] at hy
      rcases hy with hy | hy
      · exact hz y hy
      · rw [List.mem_singleton] at hy; omega
    · have hc := tcells_congr l1 (c := fun q => if q = m then (ls.take k).count m + 1 else (ls.take k).count q) (d := fun n => (ls.take (k + 1)).count n) ⟨none, 0, 0⟩ (fun q _ => by
        rw [count_take_step' ls q hgk]
        by_cases hq : q = m
        · subst hq; simp
        · rw [if_neg hq, if_neg (fun h => hq h.symm)]; rfl)
      rw [hb12, hc]
  have hge := of_decide_eq_false hge
  have hkk : k = zs.length := by omega
  subst hkk
  rw [List.take_length] at hz
  have htl : ls.take zs.length = ls := List.take_of_length_le (by omega)
  rw [htl] at ht
  have hno : ¬ ∃ z ∈ zs, z < 0 ∨ 15 < z := fun ⟨z, hm, h⟩ => by have := hz z hm; omega
  have h15 : ∀ n ∈ ls, n ≤ 15 := fun n hn => by
    obtain ⟨z, hm, rfl⟩ := List.mem_map.1 hn
    have := hz z hm; omega
  have over : ∀ {m : Nat}, m ≤ 15 → 2 ^ m < fin ls m → chk zs = 4 := fun {m} hm h => by
    have := over_later ls h hm
    unfold chk
    rw [if_neg (by omega), if_neg hno, if_pos (.inl this)]
  have hsl := sorted_le ls
  refine ⟨fun left codes n w' => ∃ (m : Nat) (l2 : Sl), m ≤ 15 ∧ n = (m : Int) + 1 ∧ fin ls m ≤ 2 ^ m ∧ left = ((2 ^ m - fin ls m : Nat) : Int) ∧ codes = (((sorted ls m).length : Nat) : Int) ∧
      TabW w' w.heap.size B l1 zs (fun n => ls.count n) (sorted ls m) l2 ∧ Fr (fun _ => False) w w', fun _ _ n _ => (17 - n).toNat,
    ⟨0, _, Nat.zero_le _, rfl, by simp [fin], by simp [fin], rfl, ht, hf⟩, ?_⟩
  rintro left codes n w18 ⟨m, l2, hm, rfl, hfl, rfl, rfl, ht, hf⟩
  have hp : 2 ^ m ≤ 2 ^ 15 := Nat.pow_le_pow_right (by decide) hm
  have hslm := hsl m
  refine ⟨fun hle => ?_, fun hgt => ?_⟩
  · have hle := of_decide_eq_true hle
    have hm14 : m + 1 ≤ 15 := by omega
    have hp14 : 2 ^ (m + 1) ≤ 2 ^ 15 := Nat.pow_le_pow_right (by decide) hm14
    have hp2 : 2 ^ (m + 1) = 2 * 2 ^ m := Nat.pow_succ'
    have hcnt : ls.count (m + 1) ≤ ls.length := List.count_le_length
    have hfs : fin ls (m + 1) = 2 * fin ls m + ls.count (m + 1) := rfl
    have htn : ((m : Int) + 1).toNat = m + 1 := by omega
    have hss : (sorted ls (m + 1)).length = (sorted ls m).length + ls.count (m + 1) := by rw [sorted, List.length_append, syms_length]
    have hslm1 := hsl (m + 1)
    rw [htn]
    refine ⟨⟨by omega, by omega⟩, _, ht.cnt (by omega), ⟨by omega, by omega⟩, _, ht.cnt (by omega), ?_⟩
    have e1 : IntKind.i64.wrap (IntKind.i64.wrap (2 * ((2 ^ m - fin ls m : Nat) : Int)) - ((ls.count (m + 1) : Nat) : Int)) = (2 ^ (m + 1) : Nat) - (fin ls (m + 1) : Int) := by
      rw [wrap_i64 (x := 2 * _) (by omega) (by omega), wrap_i64 (by omega) (by omega)]; omega
    have e2 : IntKind.i64.wrap ((((sorted ls m).length : Nat) : Int) + ((ls.count (m + 1) : Nat) : Int)) = (((sorted ls (m + 1)).length : Nat) : Int) := by rw [wrap_i64 (by omega) (by omega)]; omega
    have e3 : IntKind.i64.wrap ((m : Int) + 1 + 1) = ((m + 1 : Nat) : Int) + 1 := by rw [wrap_i64 (by omega) (by omega)]; omega
    rw [e1, e2, e3]
    refine ⟨fun h => ?_, fun h => ?_⟩
    · have h := of_decide_eq_true h
      rw [over hm14 (by omega)]
      exact ⟨.inl ⟨by decide, rfl⟩, hf⟩
    have h := of_decide_eq_false h
    refine ⟨fun i w24 => ∃ (k : Nat) (l2 : Sl), k ≤ zs.length ∧ i = (k : Int) ∧ TabW w24 w.heap.size B l1 zs (fun n => ls.count n) (sorted ls m ++ symsTo ls (m + 1) k) l2 ∧ Fr (fun _ => False) w w24, fun i _ => ((zs.length : Int) - i).toNat,
      ⟨0, l2, Nat.zero_le _, rfl, by simpa [symsTo] using ht, hf⟩, ?_⟩
    rintro i w24 ⟨k, l2', hk, rfl, ht24, hf24⟩
    refine ⟨fun hlt => ?_, fun hge => ?_⟩
    · have hlt := of_decide_eq_true hlt
      have hkl : k < zs.length := by omega
      obtain ⟨x, hx, hcx⟩ := hat hf24 k _ (hivget hkl)
      have hgk := hget hkl
      have hmem : zs.getD k 0 ∈ zs := by rw [List.getD_eq_getElem?_getD, List.getElem?_eq_getElem hkl]; exact List.getElem_mem hkl
      have e4 : IntKind.i64.wrap ((k : Int) + 1) = ((k + 1 : Nat) : Int) := by rw [wrap_i64 (by omega) (by omega)]; omega
      have hsk := symsTo_succ ls (m + 1) k _ hgk
      refine ⟨⟨by omega, by omega⟩, x, hx, zs.getD k 0, by rw [Int.toNat_natCast, Nat.mul_one]; exact hcx, ?_⟩
      have hz0 := hz _ hmem
      generalize zs.getD k 0 = z at hsk hz0
      rw [e4]
      refine ⟨fun heq => ?_, fun hne => ?_⟩
      · have heq : z = (m : Int) + 1 := by simpa using heq
        rw [if_pos (by omega)] at hsk
        refine ⟨l2', ht24.c17, ?_⟩
        intro w28 hw28
        have hlenx : (sorted ls m ++ symsTo ls (m + 1) k).length ≤ 640 := by
          have : (symsTo ls (m + 1) k).length ≤ k := by simpa [symsTo] using List.length_filter_le (fun i => ls[i]? == some (m + 1)) (List.range k)
          rw [List.length_append]; omega
        obtain ⟨w29, l30, hr30, ho30, hf30⟩ := append_one elInt ht24.o2 (v := .int .i64 (k : Int)) rfl (by simp only [List.length_map, maxLen]; omega) (by simp only [List.length_map]; omega) (lt_blk ht24.blk) hw28
        have hX : ∀ k, (∃ y, l2'.a = some y ∧ k = y.block) → B + 1 ≤ k := fun k ⟨y, hy, e⟩ => by rw [e]; exact (ht24.o2.blk hy).1
        have hb29 := hf30.keep ht24.blk (fun h => by have := hX _ h; omega)
        refine ⟨w29, l30, hr30, wr_blk hb29 (by simp [tcells]), ?_⟩
        intro w31 hw31
        have hb31 := set_blk hb29 17 (.slice l30.a l30.len l30.cap)
        rw [← hw31] at hb31
        have hf31 : Fr (· = B) w29 w31 := hw31 ▸ Fr.set (· = B) _ (a := ⟨B, 17, none⟩) _ rfl
        refine ⟨⟨k + 1, l30, by omega, rfl, ⟨hloB, hb31, ?_, hb1, ?_⟩, (hf24.trans hf30 (fun q hq hh => by have := hX _ hh; omega)).trans hf31 (fun q hq hh => by omega)⟩, by dsimp only; omega⟩
        · exact (ht24.o1.keep hf30 (fun y hy hh => by have := hX _ hh; have := hb1 y hy; omega)).keep hf31 (fun y hy => by have := hb1 y hy; omega)
        · rw [hsk, ← List.append_assoc]
          have := ho30.keep hf31 (fun y hy => by have := (ho30.blk hy).1; omega)
          simpa [nv] using this
      · have hne : ¬ z = (m : Int) + 1 := by simpa using hne
        rw [if_neg (by omega), List.append_nil] at hsk
        rw [← hsk] at ht24
        exact ⟨⟨k + 1, l2', by omega, rfl, ht24, hf24⟩, by dsimp only; omega⟩
    · have hge := of_decide_eq_false hge
      have : k = zs.length := by omega
      subst this
      rw [← hls, symsTo_all] at ht24
      refine ⟨⟨m + 1, l2', hm14, rfl, by omega, by omega, rfl, ht24, hf24⟩, by dsimp only; omega⟩
  have hgt := of_decide_eq_false hgt
  have hm15 : m = 15 := by omega
  subst hm15
  have hzs : zs = ls.map Int.ofNat := by
    simp only [ls, List.map_map]
    rw [eq_comm]
    exact (List.map_congr_left (g := id) fun z hz' => by have := hz z hz'; simp only [Function.comp_apply, id]; exact Int.toNat_of_nonneg this.1).trans (List.map_id _)
  have good : (fin ls 15 = 32768 ∨ (sorted ls 15).length = 0 ∨ ((sorted ls 15).length = 1 ∧ ls.count 1 = 1)) → chk zs = 0 ∧ Tab w18 w.heap.size w18.heap.size B ls := fun h => by
    refine ⟨?_, ⟨by omega, h15⟩, h, by omega, l1, l2, by rw [← hzs]; exact ht, lt_blk ht.blk, fun x hx => (ht.o2.blk hx).2⟩
    unfold chk
    rw [if_neg (by omega), if_neg hno, if_neg]
    show ¬ (32768 < fin ls 15 ∨ (fin ls 15 < 32768 ∧ 0 < (sorted ls 15).length ∧ ¬ ((sorted ls 15).length = 1 ∧ ls.count 1 = 1)))
    omega
  have bad : fin ls 15 < 32768 → 0 < (sorted ls 15).length → ¬ ((sorted ls 15).length = 1 ∧ ls.count 1 = 1) → chk zs = 4 := fun h1 h2 h3 => by
    unfold chk
    rw [if_neg (by omega), if_neg hno, if_pos (.inr ⟨h1, h2, h3⟩)]
  refine ⟨fun hl => ?_, fun hl => ?_⟩
  · have hl := of_decide_eq_true hl
    refine ⟨fun hc => ?_, fun hc => ?_⟩
    · have hc := of_decide_eq_true hc
      refine ⟨fun h1 => ?_, fun h1 => ?_⟩
      · have h1 : (((sorted ls 15).length : Nat) : Int) = 1 := by simpa using h1
        refine ⟨⟨by decide, by decide⟩, _, ht.cnt (n := 1) (by decide), fun h2 => ?_, fun h2 => ?_⟩
        · have h2 : ¬ ls.count 1 = 1 := by intro h; rw [h] at h2; exact absurd h2 (by decide)
          rw [bad (by omega) (by omega) (by omega)]
          exact ⟨.inl ⟨by decide, rfl⟩, hf⟩
        · have h2 : ls.count 1 = 1 := by
            by_cases h : ls.count 1 = 1
            · exact h
            · exfalso
              have : (((ls.count 1 : Nat) : Int) == 1) = false := by simp; omega
              rw [this] at h2; exact absurd h2 (by decide)
          obtain ⟨g1, g2⟩ := good (by omega)
          exact ⟨.inr ⟨g1, B, rfl, g2⟩, hf⟩
      · have h1 : ¬ (((sorted ls 15).length : Nat) : Int) = 1 := by simpa using h1
        rw [bad (by omega) (by omega) (by omega)]
        exact ⟨.inl ⟨by decide, rfl⟩, hf⟩
    · have hc := of_decide_eq_false hc
      obtain ⟨g1, g2⟩ := good (by omega)
      exact ⟨.inr ⟨g1, B, rfl, g2⟩, hf⟩
  · have hl := of_decide_eq_false hl
    obtain ⟨g1, g2⟩ := good (by omega)
    exact ⟨.inr ⟨g1, B, rfl, g2⟩, hf⟩
end Go.Proofs.Ytofejgaanpaieaa
