/- Streams that are written say their text. Condition: the text is no longer than a slice may be. -/
import Derived.Test.YtofejgaanpaieaaInfX
import Derived.Test.YtofejgaanpaieaaInfQ
import Derived.Test.YtofejgaanpaieaaInfS1
import Derived.Test.YtofejgaanpaieaaVcMap
import Derived.Test.YtofejgaanpaieaaHuffV
import Derived.Test.YtofejgaanpaieaaGenA
set_option linter.unusedVariables false
namespace DefM
open BitsM HuffM InfM SumM Go.Proofs.Ytofejgaanpaieaa

theorem sym_code {ls : List Nat} (hf : Fits ls) {s n : Nat} (h : ls[s]? = some n) (h1 : 1 ≤ n) (F rest : List Bool) : sym ls (F ++ (cbits ls s ++ rest)) F.length = .ok (s, F.length + n) := by
  refine sym_at ?_
  rw [List.drop_left]
  exact (cbits_prefix hf h h1 _).1 (List.prefix_append ..)
theorem take_low (F rest : List Bool) (n x : Nat) : take (F ++ (lowB n x ++ rest)) n F.length = .ok (x % 2 ^ n, F.length + n) := by
  have h1 : (lowB n x).length = n := lowB_length n x
  unfold take
  rw [if_pos (by simp only [List.length_append, h1]; omega), List.drop_left]
  have : (lowB n x ++ rest).take n = lowB n x := by
    have := List.take_left' (l₁ := lowB n x) (l₂ := rest) h1
    exact this
  rw [this, num_lowB]
theorem copy_take {s : List UInt8} {i back : Nat} (hb : 1 ≤ back) (hi : back ≤ i) (A : List UInt8) : ∀ n, i + n ≤ s.length → (∀ j, j < n → s[i - back + j]? = s[i + j]?) → copy back n (A ++ s.take i) = A ++ s.take (i + n)
  | 0, _, _ => rfl
  | n + 1, hl, hj => by
    rw [copy_succ, copy_take hb hi A n (by omega) fun j h => hj j (by omega)]
    have hlt : i + n < s.length := by omega
    rw [show i + (n + 1) = i + n + 1 by omega, List.take_succ_eq_append_getElem hlt, ← List.append_assoc]
    congr 2
    have h1 : (A ++ s.take (i + n)).length - back = A.length + (i - back + n) := by rw [List.length_append, List.length_take]; omega
    rw [h1, List.getD_eq_getElem?_getD, List.getElem?_append_right (by omega), Nat.add_sub_cancel_left, List.getElem?_take_of_lt (by omega), hj n (by omega), List.getElem?_eq_getElem hlt]
    rfl
/-- These bits are symbols, by the fixed codes, that say the first i bytes. -/
def Enc (s : List UInt8) (i : Nat) (L : List Bool) : Prop := ∀ (F : List Bool) (A : List UInt8) (most : Nat) (rest : List Bool), A.length ≤ most → ∃ k, k ≤ L.length ∧
  ∀ f, packed fixedLit fixedDist most (F ++ (L ++ rest)) (f + k) F.length A = if A.length + i ≤ most then packed fixedLit fixedDist most (F ++ (L ++ rest)) f (F.length + L.length) (A ++ s.take i) else .error 2
theorem enc_zero (s : List UInt8) : Enc s 0 [] := fun F A most rest hA => ⟨0, Nat.le_refl _, fun f => by
  rw [if_pos (by omega), List.take_zero, List.append_nil]; rfl⟩
theorem lit_fits : Fits fixedLit := chk_fits fixedLit_chk
theorem dist_fits : Fits fixedDist := chk_fits fixedDist_chk
theorem lit_get {s : Nat} (h : s < 288) : fixedLit[s]? = some (fixN s) := by
  rw [fixedLit_eq, List.getElem?_map, List.getElem?_range h]; rfl
theorem dist_get {s : Nat} (h : s < 32) : fixedDist[s]? = some 5 := by
  rw [fixedDist_eq, List.getElem?_map, List.getElem?_range h]; rfl
theorem fixN_le (s : Nat) : 7 ≤ fixN s ∧ fixN s ≤ 9 := by unfold fixN; split <;> (try split) <;> omega
theorem lit_len {s : Nat} (h : s < 288) : (cbits fixedLit s).length = fixN s := by rw [cbits_length, getD_of (lit_get h)]
theorem dist_len {s : Nat} (h : s < 32) : (cbits fixedDist s).length = 5 := by rw [cbits_length, getD_of (dist_get h)]
/-- One more step, whatever it is. -/
theorem enc_step {s : List UInt8} {i i2 : Nat} {L X : List Bool} (h : Enc s i L) (hi : i ≤ i2) (hs : i ≤ s.length) (hX : 1 ≤ X.length)
    (step : ∀ (G : List Bool) (A : List UInt8) (most f : Nat) (rest : List Bool), A.length + i ≤ most → packed fixedLit fixedDist most (G ++ (X ++ rest)) (f + 1) G.length (A ++ s.take i) = if A.length + i2 ≤ most then packed fixedLit fixedDist most (G ++ (X ++ rest)) f (G.length + X.length) (A ++ s.take i2) else .error 2) : Enc s i2 (L ++ X) := fun F A most rest hA => by
  obtain ⟨k, hk, hp⟩ := h F A most (X ++ rest) hA
  refine ⟨k + 1, by rw [List.length_append]; omega, fun f => ?_⟩
  rw [List.append_assoc L X rest, show f + (k + 1) = f + 1 + k by omega, hp]
  by_cases hle : A.length + i ≤ most
  · rw [if_pos hle]
    have := step (F ++ L) A most f rest hle
    rw [List.append_assoc F L, List.length_append] at this
    rw [this, List.length_append, Nat.add_assoc]
  · rw [if_neg hle, if_neg (by omega)]
theorem enc_lit {s : List UInt8} {i : Nat} {L : List Bool} (h : Enc s i L) {c : UInt8} (hc : s[i]? = some c) : Enc s (i + 1) (L ++ cbits fixedLit c.toNat) := by
  obtain ⟨hlt, hc'⟩ := List.getElem?_eq_some_iff.1 hc
  have hb := c.toNat_lt
  refine enc_step h (by omega) (by omega) (by rw [lit_len (by omega)]; have := fixN_le c.toNat; omega) fun G A most f rest hle => ?_
  rw [packed, sym_code lit_fits (lit_get (by omega)) (by have := fixN_le c.toNat; omega)]
  dsimp only
  rw [if_neg (by omega), if_pos (by omega), UInt8.ofNat_toNat, lit_len (by omega)]
  have hl : (A ++ s.take i).length = A.length + i := by rw [List.length_append, List.length_take]; omega
  rw [hl]
  by_cases hm : A.length + i = most
  · rw [if_pos hm, if_neg (by omega)]
  · rw [if_neg hm, if_pos (by omega), List.append_assoc, List.take_succ_eq_append_getElem hlt, hc']
/-- The bits of a repeat. -/
def repB (a more d far : Nat) : List Bool := cbits fixedLit (257 + a) ++ (lowB (lenBase a).2 more ++ (cbits fixedDist d ++ lowB (distBase d).2 far))
theorem repB_length {a more d far : Nat} (ha : a ≤ 28) (hd : d ≤ 29) : (repB a more d far).length = fixN (257 + a) + (lenBase a).2 + 5 + (distBase d).2 := by
  unfold repB
  simp only [List.length_append, lit_len (show 257 + a < 288 by omega), dist_len (show d < 32 by omega), lowB_length]
  omega
theorem enc_rep {s : List UInt8} {i : Nat} {L : List Bool} (h : Enc s i L) {a more d far : Nat} (ha : a ≤ 28) (hd : d ≤ 29) (hm : more < 2 ^ (lenBase a).2) (hfar : far < 2 ^ (distBase d).2)
    (hback : (distBase d).1 + far ≤ i) (hn : i + ((lenBase a).1 + more) ≤ s.length) (hj : ∀ j, j < (lenBase a).1 + more → s[i - ((distBase d).1 + far) + j]? = s[i + j]?) : Enc s (i + ((lenBase a).1 + more)) (L ++ repB a more d far) := by
  have hb1 := (distBase_le d hd).1
  refine enc_step h (by omega) (by omega) (by rw [repB_length ha hd]; omega) fun G A most f rest hle => ?_
  have hG1 : G ++ (repB a more d far ++ rest) = G ++ (cbits fixedLit (257 + a) ++ (lowB (lenBase a).2 more ++ (cbits fixedDist d ++ (lowB (distBase d).2 far ++ rest)))) := by
    unfold repB; simp only [List.append_assoc]
  have f1 := sym_code lit_fits (lit_get (show 257 + a < 288 by omega)) (by have := fixN_le (257 + a); omega) G (lowB (lenBase a).2 more ++ (cbits fixedDist d ++ (lowB (distBase d).2 far ++ rest)))
  have f2 := take_low (G ++ cbits fixedLit (257 + a)) (cbits fixedDist d ++ (lowB (distBase d).2 far ++ rest)) (lenBase a).2 more
  have f3 := sym_code dist_fits (dist_get (show d < 32 by omega)) (by omega) (G ++ cbits fixedLit (257 + a) ++ lowB (lenBase a).2 more) (lowB (distBase d).2 far ++ rest)
  have f4 := take_low (G ++ cbits fixedLit (257 + a) ++ lowB (lenBase a).2 more ++ cbits fixedDist d) rest (distBase d).2 far
  simp only [List.append_assoc, List.length_append, lit_len (show 257 + a < 288 by omega), dist_len (show d < 32 by omega), lowB_length, Nat.mod_eq_of_lt hm, Nat.mod_eq_of_lt hfar] at f1 f2 f3 f4
  rw [hG1, repB_length ha hd]
  generalize G ++ (cbits fixedLit (257 + a) ++ (lowB (lenBase a).2 more ++ (cbits fixedDist d ++ (lowB (distBase d).2 far ++ rest)))) = B at f1 f2 f3 f4 ⊢
  rw [packed, f1]
  dsimp only
  rw [if_neg (by omega), if_neg (by omega), rep, if_neg (by omega), show 257 + a - 257 = a by omega, f2]
  dsimp only
  rw [show G.length + (fixN (257 + a)) + (lenBase a).2 = G.length + (fixN (257 + a) + (lenBase a).2) by omega] at *
  rw [f3]
  dsimp only
  rw [if_neg (by omega)]
  rw [show G.length + (fixN (257 + a) + (lenBase a).2) + 5 = G.length + (fixN (257 + a) + ((lenBase a).2 + 5)) by omega] at *
  rw [f4]
  dsimp only
  have hl : (A ++ s.take i).length = A.length + i := by rw [List.length_append, List.length_take]; omega
  rw [hl, if_neg (by omega), copy_take (by omega) hback A _ hn hj]
  by_cases hmm : most < A.length + i + ((lenBase a).1 + more)
  · rw [if_pos hmm, if_neg (by omega)]
  · rw [if_neg hmm, if_pos (by omega)]
    dsimp only
    congr 1
    omega
/-- This stream says this text, at whatever place and behind whatever came out before. -/
def StreamAt (t s : List UInt8) (p : Nat) : Prop := ∀ (F : List Bool) (A : List UInt8) (most : Nat) (back : List UInt8) (f : Nat), F.length % 8 = 0 → A.length ≤ most → t.length < f →
  blocks most (F ++ sbits (t ++ back)) f F.length A = if A.length + s.length ≤ most then .ok (A ++ s, F.length + p) else .error 2
def Stream (t s : List UInt8) : Prop := ∃ p, (p + 7) / 8 = t.length ∧ StreamAt t s p
theorem stream_packed {s : List UInt8} {L : List Bool} (h : Enc s s.length L) : Stream (textOf (lowB 3 3 ++ (L ++ cbits fixedLit 256))) s := by
  refine ⟨3 + (L.length + 7), ?_, fun F A most back f hF hA hf => ?_⟩
  · rw [textOf_length, List.length_append, List.length_append, lowB_length, lit_len (by omega)]
    rfl
  obtain ⟨g, rfl⟩ : ∃ g, f = g + 1 := ⟨f - 1, by omega⟩
  obtain ⟨Z, hZ⟩ : ∃ Z, sbits (textOf (lowB 3 3 ++ (L ++ cbits fixedLit 256)) ++ back) = lowB 3 3 ++ (L ++ (cbits fixedLit 256 ++ Z)) := by
    refine ⟨List.replicate (8 * (((lowB 3 3 ++ (L ++ cbits fixedLit 256)).length + 7) / 8) - (lowB 3 3 ++ (L ++ cbits fixedLit 256)).length) false ++ sbits back, ?_⟩
    rw [sbits_append, sbits_textOf]
    unfold fill8
    simp only [List.append_assoc]
  rw [hZ]
  have ht := take_low F (L ++ (cbits fixedLit 256 ++ Z)) 3 3
  have hs := sym_code lit_fits (lit_get (show 256 < 288 by omega)) (by have := fixN_le 256; omega) (F ++ (lowB 3 3 ++ L)) Z
  obtain ⟨k, hk, hp⟩ := h (F ++ lowB 3 3) A most (cbits fixedLit 256 ++ Z) hA
  have hBl : (F ++ (lowB 3 3 ++ (L ++ (cbits fixedLit 256 ++ Z)))).length = F.length + (3 + (L.length + (7 + Z.length))) := by
    simp only [List.length_append, lowB_length, lit_len (show 256 < 288 by omega)]; rfl
  simp only [List.append_assoc, List.length_append, lowB_length] at hs hp
  generalize F ++ (lowB 3 3 ++ (L ++ (cbits fixedLit 256 ++ Z))) = B at ht hs hp hBl ⊢
  rw [blocks, ht]
  dsimp only
  rw [block, if_neg (by decide), if_pos (by decide), hBl]
  obtain ⟨j, hj⟩ : ∃ j, F.length + (3 + (L.length + (7 + Z.length))) + 1 = j + 1 + k := ⟨F.length + (3 + (L.length + (7 + Z.length))) - k, by omega⟩
  rw [hj, hp]
  by_cases hm : A.length + s.length ≤ most
  · rw [if_pos hm, if_pos hm, packed, show F.length + 3 + L.length = F.length + (3 + L.length) by omega, hs]
    dsimp only
    rw [if_pos rfl]
    dsimp only
    rw [if_pos (by decide), List.take_length]
    congr 2
  · rw [if_neg hm, if_neg hm]
theorem num_little2 (n : Nat) (h : n < 65536) (rest : List UInt8) : num ((sbits (littleB 2 n ++ rest)).take 16) = n := by
  have hl : (sbits (littleB 2 n)).length = 16 := by rw [sbits_length, littleB_length]
  rw [sbits_append]
  have : (sbits (littleB 2 n) ++ sbits rest).take 16 = sbits (littleB 2 n) := List.take_left' hl
  rw [this, show littleB 2 n = [UInt8.ofNat n, UInt8.ofNat (n / 256)] by simp [littleB, List.range_succ]]
  simp only [sbits, List.append_nil, num_append, num_lowB, lowB_length]
  simp
  omega
theorem bytes_here (c rest : List UInt8) : bytesAt (sbits (c ++ rest)) c.length 0 = c := by
  rw [bytesAt_of, List.drop_zero]
  have := bytesOf_sbits [] 0 rfl (c ++ rest) c.length (by rw [List.length_append]; omega)
  rw [List.nil_append, Nat.zero_add] at this
  rw [this, List.take_left]
  rfl
theorem bytesAt_drop (B : List Bool) (n p : Nat) : bytesAt B n p = bytesAt (B.drop p) n 0 := by
  rw [bytesAt_of, bytesAt_of, List.drop_zero]
theorem stored_block {most : Nat} {F : List Bool} {A c rest : List UInt8} {fl f : Nat} (hF : F.length % 8 = 0) (hfl : fl ≤ 1) (hc : c.length ≤ 65535) :
    blocks most (F ++ sbits (shead fl c.length ++ (c ++ rest))) (f + 1) F.length A =
      if A.length + c.length ≤ most then (if fl = 1 then .ok (A ++ c, F.length + 8 * (5 + c.length)) else blocks most (F ++ sbits (shead fl c.length ++ (c ++ rest))) f (F.length + 8 * (5 + c.length)) (A ++ c)) else .error 2 := by
  have hsp : sbits (shead fl c.length ++ (c ++ rest)) = lowB 3 fl ++ (List.replicate 5 false ++ sbits (littleB 2 c.length ++ (littleB 2 (65535 - c.length) ++ (c ++ rest)))) := by
    have hb : sbits [UInt8.ofNat fl] = lowB 3 fl ++ List.replicate 5 false := by rcases (show fl = 0 ∨ fl = 1 by omega) with rfl | rfl <;> rfl
    unfold shead
    rw [List.append_assoc, sbits_append, hb, List.append_assoc, List.append_assoc]
  have ht := take_low F (List.replicate 5 false ++ sbits (littleB 2 c.length ++ (littleB 2 (65535 - c.length) ++ (c ++ rest)))) 3 fl
  rw [← hsp] at ht
  have hX : (F ++ (lowB 3 fl ++ List.replicate 5 false)).length = F.length + 8 := by simp [lowB_length]
  have hd : (F ++ sbits (shead fl c.length ++ (c ++ rest))).drop (F.length + 8) = sbits (littleB 2 c.length ++ (littleB 2 (65535 - c.length) ++ (c ++ rest))) := by
    rw [hsp, ← List.append_assoc (lowB 3 fl), ← List.append_assoc F, ← hX, List.drop_left]
  have hBl : (F ++ sbits (shead fl c.length ++ (c ++ rest))).length = F.length + 8 * (5 + c.length + rest.length) := by
    rw [List.length_append, sbits_length, List.length_append, shead_length, List.length_append]; omega
  have hd2 : (F ++ sbits (shead fl c.length ++ (c ++ rest))).drop (F.length + 8 + 16) = sbits (littleB 2 (65535 - c.length) ++ (c ++ rest)) := by
    rw [← List.drop_drop, hd, show 16 = 8 * 2 from rfl, ← sbits_drop, List.drop_left' (littleB_length 2 _)]
  have hd3 : (F ++ sbits (shead fl c.length ++ (c ++ rest))).drop (F.length + 8 + 32) = sbits (c ++ rest) := by
    rw [show F.length + 8 + 32 = F.length + 8 + 16 + 16 by omega, ← List.drop_drop, hd2, show 16 = 8 * 2 from rfl, ← sbits_drop, List.drop_left' (littleB_length 2 _)]
  have hn1 := num_little2 c.length (by omega) (littleB 2 (65535 - c.length) ++ (c ++ rest))
  have hn2 := num_little2 (65535 - c.length) (by omega) (c ++ rest)
  rw [← hd] at hn1
  rw [← hd2] at hn2
  have hby := bytesAt_drop (F ++ sbits (shead fl c.length ++ (c ++ rest))) c.length (F.length + 8 + 32)
  rw [hd3, bytes_here] at hby
  generalize F ++ sbits (shead fl c.length ++ (c ++ rest)) = B at ht hBl hn1 hn2 hby ⊢
  rw [blocks, ht]
  dsimp only
  have hfl8 : fl % 2 ^ 3 = fl := by omega
  rw [hfl8, block, if_pos (by omega), stored]
  dsimp only
  rw [show (F.length + 3 + 7) / 8 * 8 = F.length + 8 by omega, if_pos (by omega), hn1, hn2, if_neg (by omega), if_pos (by omega), hby]
  by_cases hm : A.length + c.length ≤ most
  · rw [if_neg (by omega), if_pos hm]
    dsimp only
    rw [show F.length + 8 + 32 + 8 * c.length = F.length + 8 * (5 + c.length) by omega]
    by_cases h1 : fl = 1
    · rw [if_pos (by omega), if_pos h1]
    · rw [if_neg (by omega), if_neg h1]
  · rw [if_pos (by omega), if_neg hm]
theorem stream_stored : ∀ (n : Nat) (s : List UInt8), s.length = n → StreamAt (storedS s) s (8 * (storedS s).length) := fun n => by
  induction n using Nat.strongRecOn with
  | ind n ih =>
    intro s hs F A most back f hF hA hf
    obtain ⟨g, rfl⟩ : ∃ g, f = g + 1 := ⟨f - 1, by omega⟩
    by_cases h : s.length ≤ 65535
    · rw [storedS_last h, List.append_assoc, stored_block hF (by decide) h, if_pos rfl, List.length_append, shead_length]
    · have hc : (s.take 65535).length = 65535 := by rw [List.length_take]; omega
      have hb := stored_block (most := most) (F := F) (A := A) (c := s.take 65535) (rest := storedS (s.drop 65535) ++ back) (fl := 0) (f := g) hF (by decide) (by omega)
      rw [hc, if_neg (show ¬ ((0 : Nat) = 1) by decide)] at hb
      have hst := ih (n - 65535) (by omega) (s.drop 65535) (by rw [List.length_drop]; omega)
      have hlen : (storedS s).length = 5 + 65535 + (storedS (s.drop 65535)).length := by
        rw [storedS_more h, List.length_append, List.length_append, shead_length, hc]
      rw [hlen] at hf ⊢
      rw [storedS_more h]
      rw [show shead 0 65535 ++ s.take 65535 ++ storedS (s.drop 65535) ++ back = shead 0 65535 ++ (s.take 65535 ++ (storedS (s.drop 65535) ++ back)) by simp only [List.append_assoc], hb]
      have hF2 : (F ++ sbits (shead 0 65535 ++ s.take 65535)).length = F.length + 8 * (5 + 65535) := by rw [List.length_append, sbits_length, List.length_append, shead_length, hc]
      have h2 := fun hm => hst (F ++ sbits (shead 0 65535 ++ s.take 65535)) (A ++ s.take 65535) most back g (by rw [hF2]; omega) hm (by omega)
      rw [hF2, List.append_assoc, ← sbits_append, List.append_assoc, List.length_append, hc, List.length_drop, List.append_assoc, List.take_append_drop] at h2
      by_cases hm : A.length + 65535 ≤ most
      · rw [if_pos hm, h2 hm]
        by_cases hm2 : A.length + s.length ≤ most
        · rw [if_pos (by omega), if_pos hm2]
          congr 2
          omega
        · rw [if_neg (by omega), if_neg hm2]
      · rw [if_neg hm, if_neg (by omega)]
end DefM
namespace Go.Proofs.Ytofejgaanpaieaa
open Go Vc BitsM HuffM InfM SumM Go.Proofs

/-- The last symbol whose base is not above a number. -/
def SymOf (base : Nat → Nat × Nat) (top n a : Nat) : Prop := a ≤ top ∧ (base a).1 ≤ n ∧ (a = top ∨ n < (base (a + 1)).1)
open Classical in
noncomputable def symF (base : Nat → Nat × Nat) (top n : Nat) : Nat := if h : ∃ a, SymOf base top n a then h.choose else 0
theorem symOf_one {base : Nat → Nat × Nat} {top n a b : Nat} (mono : ∀ i j, i < j → j ≤ top → (base i).1 < (base j).1) (h : SymOf base top n a) (h' : SymOf base top n b) : a = b := by
  obtain ⟨h1, h2, h3⟩ := h
  obtain ⟨g1, g2, g3⟩ := h'
  rcases Nat.lt_trichotomy a b with hlt | rfl | hlt
  · rcases h3 with rfl | h3
    · omega
    · by_cases hab : a + 1 = b
      · rw [hab] at h3; omega
      · have := mono (a + 1) b (by omega) g1; omega
  · rfl
  · rcases g3 with rfl | g3
    · omega
    · by_cases hab : b + 1 = a
      · rw [hab] at g3; omega
      · have := mono (b + 1) a (by omega) h1; omega
theorem symF_eq {base : Nat → Nat × Nat} {top n a : Nat} (mono : ∀ i j, i < j → j ≤ top → (base i).1 < (base j).1) (h : SymOf base top n a) : symF base top n = a := by
  have hx : ∃ a, SymOf base top n a := ⟨a, h⟩
  unfold symF
  rw [dif_pos hx]
  exact symOf_one mono hx.choose_spec h
theorem len_mono : ∀ i j, i < j → j ≤ 28 → (lenBase i).1 < (lenBase j).1 := fun i j hi hj => by
  have : ∀ j, j ≤ 28 → ∀ i, i < j → (lenBase i).1 < (lenBase j).1 := by decide +kernel
  exact this j hj i hi
theorem dist_mono : ∀ i j, i < j → j ≤ 29 → (distBase i).1 < (distBase j).1 := fun i j hi hj => by
  have : ∀ j, j ≤ 29 → ∀ i, i < j → (distBase i).1 < (distBase j).1 := by decide +kernel
  exact this j hj i hi
/-- How many bytes are alike. -/
def alike (s : List UInt8) (a i : Nat) : Nat → Nat → Nat
  | 0, m => m
  | f + 1, m => if i + m < s.length ∧ s[a + m]? = s[i + m]? then alike s a i f (m + 1) else m
/-- What is found at a place: how many bytes, how far back, the entries behind. -/
def dfind (s : ByteArray) (i : Nat) (ents : List (ByteArray × Value)) : Nat × Nat × List (ByteArray × Value) :=
  if i + 3 ≤ s.size then
    match mlook ents (s.extract i (i + 3)) with
    | some (.int _ v) => if i - v.toNat ≤ 32768 then (alike s.data.toList v.toNat i 258 0, i - v.toNat, mupd ents (s.extract i (i + 3)) (.int .i64 (i : Int))) else (0, 0, mupd ents (s.extract i (i + 3)) (.int .i64 (i : Int)))
    | _ => (0, 0, mupd ents (s.extract i (i + 3)) (.int .i64 (i : Int)))
  else (0, 0, ents)
/-- One symbol, or one repeat, more. -/
noncomputable def dstep (s : ByteArray) (x : Nat × List Bool × List (ByteArray × Value)) : Nat × List Bool × List (ByteArray × Value) :=
  if (dfind s x.1 x.2.2).1 < 3 then (x.1 + 1, x.2.1 ++ cbits fixedLit (byt s x.1), (dfind s x.1 x.2.2).2.2)
  else (x.1 + (dfind s x.1 x.2.2).1, x.2.1 ++ DefM.repB (symF lenBase 28 (dfind s x.1 x.2.2).1) ((dfind s x.1 x.2.2).1 - (lenBase (symF lenBase 28 (dfind s x.1 x.2.2).1)).1) (symF distBase 29 (dfind s x.1 x.2.2).2.1) ((dfind s x.1 x.2.2).2.1 - (distBase (symF distBase 29 (dfind s x.1 x.2.2).2.1)).1), (dfind s x.1 x.2.2).2.2)
noncomputable def diter (s : ByteArray) : Nat → Nat × List Bool × List (ByteArray × Value)
  | 0 => (0, [], [])
  | n + 1 => dstep s (diter s n)
theorem diter_lt (s : ByteArray) : ∀ n d, (diter s n).1 + d + 1 ≤ (diter s (n + d + 1)).1 := fun n d => by
  have step : ∀ m, (diter s m).1 + 1 ≤ (diter s (m + 1)).1 := fun m => by
    rw [diter, dstep]
    split <;> dsimp only <;> omega
  induction d with
  | zero => exact step n
  | succ d ih => have := step (n + d + 1); rw [show n + (d + 1) + 1 = n + d + 1 + 1 by omega]; omega
theorem diter_one {s : ByteArray} {n m : Nat} (h : (diter s n).1 = (diter s m).1) : n = m := by
  rcases Nat.lt_trichotomy n m with hlt | rfl | hlt
  · have := diter_lt s n (m - n - 1); rw [show n + (m - n - 1) + 1 = m by omega] at this; omega
  · rfl
  · have := diter_lt s m (n - m - 1); rw [show m + (n - m - 1) + 1 = n by omega] at this; omega
open Classical in
/-- The stream that is written. -/
noncomputable def deflT (s : ByteArray) : List UInt8 :=
  if h : ∃ n, (diter s n).1 = s.size then
    (if (textOf (lowB 3 3 ++ (diter s h.choose).2.1 ++ cbits fixedLit 256)).length < (storedS s.data.toList).length then textOf (lowB 3 3 ++ (diter s h.choose).2.1 ++ cbits fixedLit 256) else storedS s.data.toList)
  else []
theorem deflT_eq {s : ByteArray} {n : Nat} {L : List Bool} {ents : List (ByteArray × Value)} (h : diter s n = (s.size, L, ents)) :
    deflT s = if (textOf (lowB 3 3 ++ L ++ cbits fixedLit 256)).length < (storedS s.data.toList).length then textOf (lowB 3 3 ++ L ++ cbits fixedLit 256) else storedS s.data.toList := by
  have hx : ∃ n, (diter s n).1 = s.size := ⟨n, by rw [h]⟩
  unfold deflT
  rw [dif_pos hx]
  have : hx.choose = n := diter_one (hx.choose_spec.trans (by rw [h]))
  rw [this, h]
theorem len_next : ∀ k, k < 28 → (lenBase (k + 1)).1 ≤ (lenBase k).1 + 2 ^ (lenBase k).2 := by decide +kernel
theorem dist_next : ∀ k, k < 29 → (distBase (k + 1)).1 ≤ (distBase k).1 + 2 ^ (distBase k).2 := by decide +kernel
/-- The symbol of a length. -/
theorem symlen_spec {n : Nat} (h3 : 3 ≤ n) (hn : n ≤ 258) (w : World) :
    Calls Try.prog F_inflate_symbolOf #[.int .i64 (n : Int), .int .i64 28, .func (.func F_inflate_lengthBase) #[] #[]] w fun e w' => ∃ a more : Nat, e = .returned (.tuple #[.int .i64 (a : Int), .int .u32 (more : Int), .int .i64 (((lenBase a).2 : Nat) : Int)]) ∧
      a ≤ 28 ∧ (lenBase a).1 + more = n ∧ more < 2 ^ (lenBase a).2 ∧ SymOf lenBase 28 n a ∧ w' = w := by
  refine vc_inflate_symbolOf_len_ok (R := fun v w' => ∃ a more : Nat, v = .tuple #[.int .i64 (a : Int), .int .u32 (more : Int), .int .i64 (((lenBase a).2 : Nat) : Int)] ∧ a ≤ 28 ∧ (lenBase a).1 + more = n ∧ more < 2 ^ (lenBase a).2 ∧ SymOf lenBase 28 n a ∧ w' = w) ?_ (fun v w' ⟨a, more, h⟩ => ⟨a, more, by rw [h.1], h.2⟩)
  refine ⟨fun i w' => ∃ k : Nat, i = (k : Int) ∧ k ≤ 28 ∧ (k = 28 ∨ n < (lenBase (k + 1)).1) ∧ w' = w, fun i _ => i.toNat, ⟨28, rfl, by omega, .inl rfl, rfl⟩, ?_⟩
  rintro i w4 ⟨k, rfl, hk, hnext, hw⟩
  replace hw := hw.symm
  subst hw
  refine (lbase_spec k hk w).mono ?_
  rintro e w6 ⟨rfl, hw⟩
  replace hw := hw.symm
  subst hw
  have hb := lenBase_le k hk
  refine ⟨_, _, rfl, fun hle => ?_, fun hgt => ?_⟩
  · have hle := of_decide_eq_true hle
    refine ⟨k, n - (lenBase k).1, ?_, hk, by omega, ?_, ⟨hk, by omega, hnext⟩, rfl⟩
    · rw [wrap_i64 (by omega) (by omega), wrap_u32 (by omega) (by omega), show ((n : Int) - ((lenBase k).1 : Int)) = ((n - (lenBase k).1 : Nat) : Int) by omega]
    · have hp := Nat.two_pow_pos (lenBase k).2
      rcases hnext with rfl | hlt
      · have : (lenBase 28).1 = 258 := rfl
        omega
      · by_cases h28 : k = 28
        · subst h28
          have : (lenBase 28).1 = 258 := rfl
          omega
        · have := len_next k (by omega)
          omega
  · have hgt := of_decide_eq_false hgt
    have h0 : k ≠ 0 := fun hh => by subst hh; have : (lenBase 0).1 = 3 := rfl; omega
    obtain ⟨j, rfl⟩ : ∃ j, k = j + 1 := ⟨k - 1, by omega⟩
    have e1 : IntKind.i64.wrap (((j + 1 : Nat) : Int) - 1) = (j : Int) := by rw [wrap_i64 (by omega) (by omega)]; omega
    rw [e1]
    exact ⟨⟨j, rfl, by omega, .inr (by omega), rfl⟩, by dsimp only; omega⟩
/-- The symbol of a distance. -/
theorem symdist_spec {n : Nat} (h1 : 1 ≤ n) (hn : n ≤ 32768) (w : World) :
    Calls Try.prog F_inflate_symbolOf #[.int .i64 (n : Int), .int .i64 29, .func (.func F_inflate_distBase) #[] #[]] w fun e w' => ∃ a more : Nat, e = .returned (.tuple #[.int .i64 (a : Int), .int .u32 (more : Int), .int .i64 (((distBase a).2 : Nat) : Int)]) ∧
      a ≤ 29 ∧ (distBase a).1 + more = n ∧ more < 2 ^ (distBase a).2 ∧ SymOf distBase 29 n a ∧ w' = w := by
  refine vc_inflate_symbolOf_dist_ok (R := fun v w' => ∃ a more : Nat, v = .tuple #[.int .i64 (a : Int), .int .u32 (more : Int), .int .i64 (((distBase a).2 : Nat) : Int)] ∧ a ≤ 29 ∧ (distBase a).1 + more = n ∧ more < 2 ^ (distBase a).2 ∧ SymOf distBase 29 n a ∧ w' = w) ?_ (fun v w' ⟨a, more, h⟩ => ⟨a, more, by rw [h.1], h.2⟩)
  refine ⟨fun i w' => ∃ k : Nat, i = (k : Int) ∧ k ≤ 29 ∧ (k = 29 ∨ n < (distBase (k + 1)).1) ∧ w' = w, fun i _ => i.toNat, ⟨29, rfl, by omega, .inl rfl, rfl⟩, ?_⟩
  rintro i w4 ⟨k, rfl, hk, hnext, hw⟩
  replace hw := hw.symm
  subst hw
  refine (dbase_spec k hk w).mono ?_
  rintro e w6 ⟨rfl, hw⟩
  replace hw := hw.symm
  subst hw
  have hb := distBase_le k hk
  refine ⟨_, _, rfl, fun hle => ?_, fun hgt => ?_⟩
  · have hle := of_decide_eq_true hle
    refine ⟨k, n - (distBase k).1, ?_, hk, by omega, ?_, ⟨hk, by omega, hnext⟩, rfl⟩
    · rw [wrap_i64 (by omega) (by omega), wrap_u32 (by omega) (by omega), show ((n : Int) - ((distBase k).1 : Int)) = ((n - (distBase k).1 : Nat) : Int) by omega]
    · have hp := Nat.two_pow_pos (distBase k).2
      rcases hnext with rfl | hlt
      · have : (distBase 29).1 = 24577 := rfl
        have : 2 ^ (distBase 29).2 = 8192 := rfl
        omega
      · by_cases h28 : k = 29
        · subst h28
          have : (distBase 29).1 = 24577 := rfl
          have : 2 ^ (distBase 29).2 = 8192 := rfl
          omega
        · have := dist_next k (by omega)
          omega
  · have hgt := of_decide_eq_false hgt
    have h0 : k ≠ 0 := fun hh => by subst hh; have : (distBase 0).1 = 1 := rfl; omega
    obtain ⟨j, rfl⟩ : ∃ j, k = j + 1 := ⟨k - 1, by omega⟩
    have e1 : IntKind.i64.wrap (((j + 1 : Nat) : Int) - 1) = (j : Int) := by rw [wrap_i64 (by omega) (by omega)]; omega
    rw [e1]
    exact ⟨⟨j, rfl, by omega, .inr (by omega), rfl⟩, by dsimp only; omega⟩
/-- Deflating, in order. -/
structure DSt (w0 w : World) (b lo hi lb db r : Nat) (sl : Sl) (M : List Bool) (ents : List (ByteArray × Value)) : Prop where
  wr : Wrt w b sl M
  mp : MapOf w r ents
  lit : Tab w lo hi lb fixedLit
  dist : Tab w lo hi db fixedDist
  fr : Fr (fun _ => False) w0 w
  sls : ∀ y, sl.a = some y → hi ≤ y.block ∧ y.block ≠ r
  hb : w0.heap.size ≤ b
  hlo : b < lo
  hhi : hi ≤ r
  hbr : b < r
theorem DSt.wx {w0 w : World} {b lo hi lb db r : Nat} {sl : Sl} {M : List Bool} {ents : List (ByteArray × Value)} (h : DSt w0 w b lo hi lb db r sl M ents) {k : Nat} (hk : WX b sl k) : k = b ∨ (hi ≤ k ∧ k ≠ r) := by
  rcases hk with hk | ⟨y, hy, e⟩
  · exact .inl hk
  · have := h.sls y hy; exact .inr (by omega)
theorem DSt.put {w0 w w2 : World} {b lo hi lb db r : Nat} {sl sl' : Sl} {M M' : List Bool} {ents : List (ByteArray × Value)} (h : DSt w0 w b lo hi lb db r sl M ents) (hw : Wrt w2 b sl' M') (hf : Fr (WX b sl) w w2) (hs : Since w sl sl') : DSt w0 w2 b lo hi lb db r sl' M' ents := by
  have hlo := h.hlo
  have hhi := h.hhi
  have hbr := h.hbr
  refine ⟨hw, h.mp.keep hf fun hx => ?_, h.lit.keep hf fun k h1 h2 hx => ?_, h.dist.keep hf fun k h1 h2 hx => ?_, h.fr.trans hf fun k hk hx => ?_, fun y hy => ?_, h.hb, h.hlo, h.hhi, h.hbr⟩
  · have := h.wx hx; omega
  · have := h.wx hx; omega
  · have := h.wx hx; omega
  · rcases hx with hx | ⟨y, hy, e⟩
    · have := h.hb; omega
    · have := (h.wr.1.own.blk hy).1; have := h.hb; omega
  · rcases hs y hy with ⟨x, hx, he⟩ | hn
    · have := h.sls x hx; omega
    · have := h.mp.lt; omega
theorem DSt.keep {w0 w w2 : World} {b lo hi lb db r : Nat} {sl : Sl} {M : List Bool} {ents : List (ByteArray × Value)} (h : DSt w0 w b lo hi lb db r sl M ents) (hf : Fr (fun _ => False) w w2) : DSt w0 w2 b lo hi lb db r sl M ents :=
  ⟨h.wr.keep hf (by simp) (by simp), h.mp.keep hf (by simp), h.lit.keep hf (by simp), h.dist.keep hf (by simp), h.fr.trans' hf, h.sls, h.hb, h.hlo, h.hhi, h.hbr⟩
theorem DSt.drew {w0 w w2 : World} {b lo hi lb db r : Nat} {sl : Sl} {M : List Bool} {ents : List (ByteArray × Value)} (h : DSt w0 w b lo hi lb db r sl M ents) (d : Drew w w2) : DSt w0 w2 b lo hi lb db r sl M ents := h.keep (.drew _ d)
theorem DSt.map {w0 w w2 : World} {b lo hi lb db r : Nat} {sl : Sl} {M : List Bool} {ents ents' : List (ByteArray × Value)} (h : DSt w0 w b lo hi lb db r sl M ents) (hm : MapOf w2 r ents') (hf : Fr (· = r) w w2) : DSt w0 w2 b lo hi lb db r sl M ents' := by
  have hhi := h.hhi
  have hbr := h.hbr
  have hb := h.hb
  refine ⟨h.wr.keep hf (by omega) (fun y hy => (h.sls y hy).2), hm, h.lit.keep hf (fun k h1 h2 => by omega), h.dist.keep hf (fun k h1 h2 => by omega), h.fr.trans hf fun k hk hx => by omega, h.sls, hb, h.hlo, hhi, hbr⟩
/-- A code put. -/
theorem code_put {w : World} {b : Nat} {sl : Sl} {M : List Bool} (h : Wrt w b sl M) {lo hi tb : Nat} {ls : List Nat} (ht : Tab w lo hi tb ls) {s n : Nat} (hs : ls[s]? = some n) (h1 : 1 ≤ n) (hl : M.length + 32 ≤ 1099511627776) {Q : World → Prop}
    (hQ : ∀ w2 sl', Wrt w2 b sl' (M ++ cbits ls s) → Fr (WX b sl) w w2 → Since w sl sl' → Q w2) :
    Calls Try.prog F_huff_Table_Code #[.pointer (some ⟨tb, 0, none⟩), .int .i64 (s : Int)] w fun e w' => ∃ x k : Int, e = .returned (.tuple #[.int .u32 x, .int .i64 k]) ∧
      Calls Try.prog F_bitin_Writer_Code #[.pointer (some ⟨b, 0, none⟩), .int .u32 x, .int .i64 k] w' fun e w2 => e = .returned (.tuple #[]) ∧ Q w2 := by
  refine (hcode_spec ht (s : Int)).mono ?_
  rintro e w' ⟨rfl, hw⟩
  replace hw := hw.symm
  subst hw
  have hg : ls.getD s 0 = n := getD_of hs
  have hn15 := ht.fits.mem hs
  have hcd : cd ls (s : Int) = (code ls s, n) := by
    unfold cd
    rw [Int.toNat_natCast, hg, if_pos ⟨by omega, by omega⟩]
  rw [hcd]
  have hc1 := code_lt hs h1
  have hc2 := ht.fits.le hn15
  have hp : 2 ^ n ≤ 2 ^ 15 := Nat.pow_le_pow_right (by decide) hn15
  refine ⟨_, _, rfl, (wcode_spec h (x := code ls s) (n := n) (by omega) h1 (by omega) (by omega)).mono ?_⟩
  rintro e w2 ⟨rfl, sl', hw', hf, hsn⟩
  refine ⟨rfl, hQ w2 sl' ?_ hf hsn⟩
  unfold cbits
  rw [hg]
  exact hw'
theorem get_byt {s : ByteArray} {i : Nat} (h : i < s.size) : s.data.toList[i]? = some (UInt8.ofNat (byt s i)) := by
  have hlt : i < s.data.toList.length := by simp only [Array.length_toList]; exact h
  rw [List.getElem?_eq_getElem hlt]
  unfold byt
  rw [List.getElem?_eq_getElem hlt]
  simp
/-- What stands under every key is a place before this one. -/
def Before (ents : List (ByteArray × Value)) (i : Nat) : Prop := ∀ x ∈ ents, ∃ v : Nat, x.2 = .int .i64 (v : Int) ∧ v < i
theorem Before.upd {ents : List (ByteArray × Value)} {i : Nat} (h : Before ents i) (k : ByteArray) : Before (mupd ents k (.int .i64 (i : Int))) (i + 1) :=
  mupd_all ⟨i, rfl, by omega⟩ ents fun x hx => by obtain ⟨v, h1, h2⟩ := h x hx; exact ⟨v, h1, by omega⟩
theorem Before.more {ents : List (ByteArray × Value)} {i j : Nat} (h : Before ents i) (hj : i ≤ j) : Before ents j := fun x hx => by
  obtain ⟨v, h1, h2⟩ := h x hx; exact ⟨v, h1, by omega⟩
/-- 'Deflate'. -/
theorem deflate_spec (s : ByteArray) (hs : s.size ≤ 100000000) (w : World) :
    Calls Try.prog F_inflate_Deflate #[.string s] w fun e w' => e = .returned (.string ⟨(deflT s).toArray⟩) ∧ DefM.Stream (deflT s) s.data.toList ∧ (deflT s).length ≤ (storedS s.data.toList).length ∧ Fr (fun _ => False) w w' := by
  refine vc_inflate_Deflate_ok (R := fun v w' => v = .string ⟨(deflT s).toArray⟩ ∧ DefM.Stream (deflT s) s.data.toList ∧ (deflT s).length ≤ (storedS s.data.toList).length ∧ Fr (fun _ => False) w w') ?_ (fun v w' h => ⟨by rw [h.1], h.2⟩)
  have hsl : s.data.toList.length = s.size := by simp
  intro w1 h1
  have hf1 : Fr (fun _ => False) w w1 := h1 ▸ Fr.alloc _ _ _
  have hw1 : Wrt w1 w.heap.size ⟨none, 0, 0⟩ [] := Wrt.zero (by rw [h1]; exact alloc_new _ _)
  have hs1 : w1.heap.size = w.heap.size + 1 := by rw [h1]; exact Array.size_push ..
  refine (fixed_spec w1).mono ?_
  rintro e w3 ⟨lb, db, rfl, hlit, hdist, hf3⟩
  have hs3 := hf3.size
  refine ⟨_, _, rfl, ?_⟩
  refine (wbits_spec (hw1.keep hf3 (by simp) (by simp)) (x := 3) (n := 3) (by decide) (by decide) (by simp)).mono ?_
  rintro e w7 ⟨rfl, sl7, hw7, hf7, hs7⟩
  refine ⟨rfl, fun w8 h8 => ?_⟩
  have hs7s := hf7.size
  have hf8 : Fr (fun _ => False) w7 w8 := h8 ▸ Fr.alloc _ _ _
  have hsl7 : ∀ y, sl7.a = some y → w3.heap.size ≤ y.block := fun y hy => by
    rcases hs7 y hy with ⟨x, hx, _⟩ | hn
    · cases hx
    · exact hn
  have hwx : ∀ k, WX w.heap.size ⟨none, 0, 0⟩ k → k = w.heap.size := fun k hk => by
    rcases hk with hk | ⟨y, hy, _⟩
    · exact hk
    · cases hy
  have hD0 : DSt w w8 w.heap.size w1.heap.size w3.heap.size lb db w7.heap.size sl7 (lowB 3 3) [] := by
    refine ⟨hw7.keep hf8 (by simp) (by simp), h8 ▸ MapOf.new, ?_, ?_, ?_, fun y hy => ⟨hsl7 y hy, ?_⟩, Nat.le_refl _, by omega, hs7s, by omega⟩
    · exact (hlit.keep hf7 fun k h1 h2 hx => by have := hwx k hx; omega).keep hf8 (by simp)
    · exact (hdist.keep hf7 fun k h1 h2 hx => by have := hwx k hx; omega).keep hf8 (by simp)
    · exact ((hf1.trans' hf3).trans hf7 fun k hk hx => by have := hwx k hx; omega).trans' hf8
    · have := (hw7.1.own.blk hy).2; omega
  generalize w7.heap.size = r at *
  generalize w.heap.size = b at *
  generalize w1.heap.size = lo at *
  generalize w3.heap.size = hi at *
  refine ⟨fun i w' => ∃ (k : Nat) (sl : Sl) (L : List Bool) (ents : List (ByteArray × Value)), i = (k : Int) ∧ k ≤ s.size ∧ DSt w w' b lo hi lb db r sl (lowB 3 3 ++ L) ents ∧ DefM.Enc s.data.toList k L ∧ L.length ≤ 32 * k ∧ Before ents k ∧ ∃ it, diter s it = (k, L, ents),
    fun i _ => s.size - i.toNat, ⟨0, sl7, [], [], rfl, Nat.zero_le _, hD0, DefM.enc_zero _, Nat.le_refl _, (by intro x hx; cases hx), 0, rfl⟩, ?_⟩
  rintro i w12 ⟨k, sl, L, ents, rfl, hk, hD, hE, hL, hB, it, hit⟩
  have hLl : (lowB 3 3 ++ L).length = 3 + L.length := by rw [List.length_append, lowB_length]
  refine ⟨fun hlt => ?_, fun hge => ?_⟩
  rotate_left 1
  · have hge := of_decide_eq_false hge
    have hkk : k = s.size := by omega
    subst hkk
    refine code_put hD.wr hD.lit (s := 256) (DefM.lit_get (by omega)) (by decide) (by omega) fun w69 sl69 hw69 hf69 hs69 => ?_
    have hD69 := hD.put hw69 hf69 hs69
    refine (wtext_spec hw69).mono ?_
    rintro e w71 ⟨rfl, hf71⟩
    refine ⟨_, rfl, ?_⟩
    have hst := DefM.stream_packed (L := L) (s := s.data.toList) (by rw [hsl]; exact hE)
    rw [← List.append_assoc] at hst
    have hdt := deflT_eq hit
    generalize textOf (lowB 3 3 ++ L ++ cbits fixedLit 256) = t at hst hdt
    have hfin := hD69.fr.trans' hf71
    have hsz : ∀ l : List UInt8, ByteArray.size ⟨l.toArray⟩ = l.length := fun l => by simp [ByteArray.size]
    refine (stored5_spec s hs w71).mono ?_
    rintro e w74 ⟨rfl, hf74⟩
    refine ⟨_, rfl, fun hlt => ?_, fun hge => ?_⟩
    · have hlt := of_decide_eq_true hlt
      rw [hsz, hsz] at hlt
      rw [if_pos (by omega)] at hdt
      rw [hdt]
      exact ⟨rfl, hst, by omega, hfin.trans' hf74⟩
    · have hge := of_decide_eq_false hge
      rw [hsz, hsz] at hge
      rw [if_neg (by omega)] at hdt
      rw [hdt]
      refine (stored5_spec s hs w74).mono ?_
      rintro e w77 ⟨rfl, hf77⟩
      exact ⟨_, rfl, rfl, ⟨8 * (storedS s.data.toList).length, by omega, DefM.stream_stored _ _ rfl⟩, Nat.le_refl _, (hfin.trans' hf74).trans' hf77⟩
  have hlt := of_decide_eq_true hlt
  have hks : k < s.size := by omega
  have e3 : IntKind.i64.wrap ((k : Int) + 3) = ((k + 3 : Nat) : Int) := by rw [wrap_i64 (by omega) (by omega)]; omega
  -- what is found
  refine ⟨fun n back w' => ∃ (m q : Nat) (ents' : List (ByteArray × Value)), n = (m : Int) ∧ back = (q : Int) ∧ DSt w w' b lo hi lb db r sl (lowB 3 3 ++ L) ents' ∧ Before ents' (k + 1) ∧ dfind s k ents = (m, q, ents') ∧
      (m < 3 ∨ (m ≤ 258 ∧ 1 ≤ q ∧ q ≤ k ∧ q ≤ 32768 ∧ k + m ≤ s.size ∧ ∀ j, j < m → s.data.toList[k - q + j]? = s.data.toList[k + j]?)), ⟨fun hle => ?_, fun hgt => ?_⟩, ?_⟩
  · have hle := of_decide_eq_true hle
    rw [e3] at hle ⊢
    refine ⟨⟨by omega, by omega, by omega⟩, ?_⟩
    rw [Int.toNat_natCast, Int.toNat_natCast]
    have hdf : dfind s k ents = match mlook ents (s.extract k (k + 3)) with
      | some (.int _ v) => if k - v.toNat ≤ 32768 then (alike s.data.toList v.toNat k 258 0, k - v.toNat, mupd ents (s.extract k (k + 3)) (.int .i64 (k : Int))) else (0, 0, mupd ents (s.extract k (k + 3)) (.int .i64 (k : Int)))
      | _ => (0, 0, mupd ents (s.extract k (k + 3)) (.int .i64 (k : Int))) := by unfold dfind; rw [if_pos (by omega)]
    generalize s.extract k (k + 3) = key at hdf ⊢
    have hlk := map_lookup (P := Try.prog) (mt := T_map_string_int) (kt := T_string) (et := T_int) (by kernel_rfl) (by kernel_rfl) (z := .int .i64 0) (w := w12) (by kernel_rfl) hD.mp key true
    have upd : ∀ {wx : World}, DSt w wx b lo hi lb db r sl (lowB 3 3 ++ L) ents → ∃ w', (Instr.mapUpdate T_map_string_int (.map (some r)) (.string key) (.int .i64 (k : Int))).run Try.prog wx = .ok () w' ∧ DSt w w' b lo hi lb db r sl (lowB 3 3 ++ L) (mupd ents key (.int .i64 (k : Int))) := fun hx => by
      obtain ⟨w', hr, hm, hf⟩ := map_update (P := Try.prog) (mt := T_map_string_int) (kt := T_string) (et := T_int) (by kernel_rfl) (by kernel_rfl) hx.mp key (.int .i64 (k : Int))
      exact ⟨w', hr, hx.map hm hf⟩
    have hlast : ∀ (n back : Int) (wx : World), DSt w wx b lo hi lb db r sl (lowB 3 3 ++ L) ents → (∃ m q : Nat, n = (m : Int) ∧ back = (q : Int) ∧ dfind s k ents = (m, q, mupd ents key (.int .i64 (k : Int))) ∧ (m < 3 ∨ (m ≤ 258 ∧ 1 ≤ q ∧ q ≤ k ∧ q ≤ 32768 ∧ k + m ≤ s.size ∧ ∀ j, j < m → s.data.toList[k - q + j]? = s.data.toList[k + j]?))) →
        ∃ w', (Instr.mapUpdate T_map_string_int (.map (some r)) (.string key) (.int .i64 (k : Int))).run Try.prog wx = .ok () w' ∧ ∃ (m q : Nat) (ents' : List (ByteArray × Value)), n = (m : Int) ∧ back = (q : Int) ∧ DSt w w' b lo hi lb db r sl (lowB 3 3 ++ L) ents' ∧ Before ents' (k + 1) ∧ dfind s k ents = (m, q, ents') ∧
          (m < 3 ∨ (m ≤ 258 ∧ 1 ≤ q ∧ q ≤ k ∧ q ≤ 32768 ∧ k + m ≤ s.size ∧ ∀ j, j < m → s.data.toList[k - q + j]? = s.data.toList[k + j]?)) := fun n back wx hx hmq => by
      obtain ⟨w', hr, hx'⟩ := upd hx
      obtain ⟨m, q, h1, h2, h4, h3⟩ := hmq
      exact ⟨w', hr, m, q, _, h1, h2, hx', hB.upd key, h4, h3⟩
    have hbnd : (0 ≤ (k : Int) ∧ (k : Int) ≤ ((k + 3 : Nat) : Int) ∧ ((k + 3 : Nat) : Int) ≤ (s.size : Int)) := ⟨by omega, by omega, by omega⟩
    cases hml : mlook ents key with
    | none =>
      rw [hml] at hlk hdf
      exact ⟨w12, 0, false, hlk, fun hh => (by cases hh), fun _ => ⟨hbnd, hlast 0 0 w12 hD ⟨0, 0, rfl, rfl, hdf, .inl (by decide)⟩⟩⟩
    | some v =>
      rw [hml] at hlk hdf
      obtain ⟨at_, hv, hat⟩ := hB _ (mlook_mem hml)
      simp only at hv
      subst hv
      dsimp only at hdf
      rw [Int.toNat_natCast] at hdf
      refine ⟨w12, at_, true, hlk, fun _ => ?_, fun hh => (by cases hh)⟩
      have e4 : IntKind.i64.wrap ((k : Int) - (at_ : Int)) = ((k - at_ : Nat) : Int) := by rw [wrap_i64 (by omega) (by omega)]; omega
      rw [e4]
      refine ⟨fun h32 => ?_, fun h32 => ⟨hbnd, hlast 0 0 w12 hD ⟨0, 0, rfl, rfl, by rw [hdf, if_neg (by have := of_decide_eq_false h32; omega)], .inl (by decide)⟩⟩⟩
      have h32 := of_decide_eq_true h32
      rw [if_pos (by omega)] at hdf
      refine ⟨fun n w' => ∃ m : Nat, n = (m : Int) ∧ m ≤ 258 ∧ k + m ≤ s.size ∧ (∀ j, j < m → s.data.toList[at_ + j]? = s.data.toList[k + j]?) ∧ alike s.data.toList at_ k 258 0 = alike s.data.toList at_ k (258 - m) m ∧ DSt w w' b lo hi lb db r sl (lowB 3 3 ++ L) ents, fun n _ => 258 - n.toNat, ⟨0, rfl, by omega, by omega, fun j hj => by omega, rfl, hD⟩, ?_⟩
      rintro n w20 ⟨m, rfl, hm, hkm, hj, hal, hD20⟩
      have e5 : IntKind.i64.wrap ((k : Int) + (m : Int)) = ((k + m : Nat) : Int) := by rw [wrap_i64 (by omega) (by omega)]; omega
      have e6 : IntKind.i64.wrap ((at_ : Int) + (m : Int)) = ((at_ + m : Nat) : Int) := by rw [wrap_i64 (by omega) (by omega)]; omega
      have e7 : IntKind.i64.wrap ((m : Int) + 1) = ((m + 1 : Nat) : Int) := by rw [wrap_i64 (by omega) (by omega)]; omega
      rw [e5, e6, e7]
      have found : alike s.data.toList at_ k 258 0 = m → ∃ m' q : Nat, (m : Int) = (m' : Int) ∧ ((k - at_ : Nat) : Int) = (q : Int) ∧ dfind s k ents = (m', q, mupd ents key (.int .i64 (k : Int))) ∧ (m' < 3 ∨ (m' ≤ 258 ∧ 1 ≤ q ∧ q ≤ k ∧ q ≤ 32768 ∧ k + m' ≤ s.size ∧ ∀ j, j < m' → s.data.toList[k - q + j]? = s.data.toList[k + j]?)) := fun hm0 =>
        ⟨m, k - at_, rfl, rfl, by rw [hdf, hm0], .inr ⟨hm, by omega, by omega, by omega, hkm, fun j h => by rw [show k - (k - at_) = at_ by omega]; exact hj j h⟩⟩
      refine ⟨fun hlt => ?_, fun hge w25 d25 => ⟨hbnd, hlast _ _ w25 (hD20.drew d25) (found ?_)⟩⟩
      rotate_left 1
      · have hge := of_decide_eq_false hge
        rw [hal, show 258 - m = 0 by omega]; rfl
      have hlt := of_decide_eq_true hlt
      obtain ⟨f, hf⟩ : ∃ f, 258 - m = f + 1 := ⟨258 - m - 1, by omega⟩
      rw [hf] at hal
      have hsa : alike s.data.toList at_ k (f + 1) m = if k + m < s.data.toList.length ∧ s.data.toList[at_ + m]? = s.data.toList[k + m]? then alike s.data.toList at_ k f (m + 1) else m := rfl
      rw [hsa] at hal
      refine ⟨fun hin => ?_, fun hout w23 d23 => ⟨hbnd, hlast _ _ w23 (hD20.drew d23) (found ?_)⟩⟩
      rotate_left 1
      · have hout := of_decide_eq_false hout
        rw [hal, if_neg (fun hh => by omega)]
      have hin := of_decide_eq_true hin
      refine ⟨⟨by omega, by omega⟩, ⟨by omega, by omega⟩, fun w21 d21 => ?_⟩
      rw [byteAt_nat, byteAt_nat]
      have g1 := get_byt (s := s) (i := at_ + m) (by omega)
      have g2 := get_byt (s := s) (i := k + m) (by omega)
      refine ⟨fun heq => ?_, fun hne => ⟨hbnd, hlast _ _ w21 (hD20.drew d21) (found ?_)⟩⟩
      · have heq : byt s (at_ + m) = byt s (k + m) := by have := eq_of_beq heq; omega
        have hsame : s.data.toList[at_ + m]? = s.data.toList[k + m]? := by rw [g1, g2, heq]
        rw [if_pos ⟨by omega, hsame⟩] at hal
        refine ⟨⟨m + 1, rfl, by omega, by omega, fun j h => ?_, by rw [hal, show 258 - (m + 1) = f by omega], hD20.drew d21⟩, by dsimp only; omega⟩
        by_cases hjm : j = m
        · subst hjm; exact hsame
        · exact hj j (by omega)
      · rw [hal, if_neg]
        rintro ⟨_, hh⟩
        rw [g1, g2, Option.some.injEq, ← UInt8.toNat_inj, toNat_byt, toNat_byt] at hh
        rw [hh] at hne
        simp at hne
  · have hgt := of_decide_eq_false hgt
    rw [e3] at hgt
    exact ⟨0, 0, ents, rfl, rfl, hD, hB.more (by omega), by unfold dfind; rw [if_neg (by omega)], .inl (by decide)⟩
  -- what is written
  rintro n back w31 ⟨m, q, ents', rfl, rfl, hD31, hB31, hdf, hmq⟩
  have hstep : diter s (it + 1) = dstep s (k, L, ents) := by rw [diter, hit]
  unfold dstep at hstep
  dsimp only at hstep
  rw [hdf] at hstep
  dsimp only at hstep
  refine ⟨fun hlt3 => ?_, fun hge3 => ?_⟩
  · have hlt3 := of_decide_eq_true hlt3
    have hb := byt_lt s k
    rw [byteAt_nat, wrap_i64 (by omega) (by omega)]
    have e1 : IntKind.i64.wrap ((k : Int) + 1) = ((k + 1 : Nat) : Int) := by rw [wrap_i64 (by omega) (by omega)]; omega
    rw [e1]
    refine ⟨⟨by omega, by omega⟩, ?_⟩
    have hfx := DefM.fixN_le (byt s k)
    refine code_put hD31.wr hD31.lit (s := byt s k) (DefM.lit_get (by omega)) (by omega) (by omega) fun w37 sl37 hw37 hf37 hs37 => ?_
    have hD37 := hD31.put hw37 hf37 hs37
    have hE37 := DefM.enc_lit hE (get_byt hks)
    rw [toNat_byt] at hE37
    rw [List.append_assoc] at hD37
    exact ⟨⟨k + 1, sl37, _, ents', rfl, by omega, hD37, hE37, by rw [List.length_append, DefM.lit_len (by omega)]; omega, hB31, it + 1, by rw [hstep, if_pos (by omega)]⟩, by dsimp only; omega⟩
  · have hge3 := of_decide_eq_false hge3
    obtain ⟨hm258, hq1, hqk, hq32, hkm, hj⟩ := hmq.resolve_left (by omega)
    refine (symlen_spec (n := m) (by omega) hm258 w31).mono ?_
    rintro e w39 ⟨a, more, rfl, ha, ham, hmore, hsa, hw⟩
    replace hw := hw.symm
    subst hw
    have e1 : IntKind.i64.wrap (257 + (a : Int)) = ((257 + a : Nat) : Int) := by rw [wrap_i64 (by omega) (by omega)]; omega
    have e2 : IntKind.i64.wrap ((k : Int) + (m : Int)) = ((k + m : Nat) : Int) := by rw [wrap_i64 (by omega) (by omega)]; omega
    obtain ⟨hl1, hl2⟩ := lenBase_le a ha
    have hp5 : 2 ^ (lenBase a).2 ≤ 2 ^ 5 := Nat.pow_le_pow_right (by decide) hl2
    refine ⟨_, _, _, rfl, ?_⟩
    rw [e1, e2]
    have hfx := DefM.fixN_le (257 + a)
    refine code_put hD31.wr hD31.lit (s := 257 + a) (DefM.lit_get (by omega)) (by omega) (by omega) fun w48 sl48 hw48 hf48 hs48 => ?_
    have hD48 := hD31.put hw48 hf48 hs48
    have hl48 : (lowB 3 3 ++ L ++ cbits fixedLit (257 + a)).length = 3 + L.length + fixN (257 + a) := by rw [List.length_append, hLl, DefM.lit_len (by omega)]
    refine (wbits_spec hD48.wr (x := more) (n := (lenBase a).2) (by omega) (by omega) (by omega)).mono ?_
    rintro e w50 ⟨rfl, sl50, hw50, hf50, hs50⟩
    have hD50 := hD48.put hw50 hf50 hs50
    refine ⟨rfl, (symdist_spec (n := q) hq1 hq32 w50).mono ?_⟩
    rintro e w52 ⟨d, far', rfl, hd, hdd, hfar, hsd, hw⟩
    replace hw := hw.symm
    subst hw
    obtain ⟨hd1, hd2, hd3⟩ := distBase_le d hd
    have hp13 : 2 ^ (distBase d).2 ≤ 2 ^ 13 := Nat.pow_le_pow_right (by decide) hd3
    have hl50 : (lowB 3 3 ++ L ++ cbits fixedLit (257 + a) ++ lowB (lenBase a).2 more).length = 3 + L.length + fixN (257 + a) + (lenBase a).2 := by rw [List.length_append, hl48, lowB_length]
    refine ⟨_, _, _, rfl, ?_⟩
    refine code_put hD50.wr hD50.dist (s := d) (DefM.dist_get (by omega)) (by decide) (by omega) fun w61 sl61 hw61 hf61 hs61 => ?_
    have hD61 := hD50.put hw61 hf61 hs61
    have hl61 : (lowB 3 3 ++ L ++ cbits fixedLit (257 + a) ++ lowB (lenBase a).2 more ++ cbits fixedDist d).length = 3 + L.length + fixN (257 + a) + (lenBase a).2 + 5 := by rw [List.length_append, hl50, DefM.dist_len (by omega)]
    refine (wbits_spec hD61.wr (x := far') (n := (distBase d).2) (by omega) (by omega) (by omega)).mono ?_
    rintro e w63 ⟨rfl, sl63, hw63, hf63, hs63⟩
    have hD63 := hD61.put hw63 hf63 hs63
    have hE63 := DefM.enc_rep hE (a := a) (more := more) (d := d) (far := far') ha hd hmore hfar (by omega) (by rw [ham, hsl]; omega) (by rw [ham, hdd]; exact hj)
    rw [ham] at hE63
    rw [show lowB 3 3 ++ L ++ cbits fixedLit (257 + a) ++ lowB (lenBase a).2 more ++ cbits fixedDist d ++ lowB (distBase d).2 far' = lowB 3 3 ++ (L ++ DefM.repB a more d far') by unfold DefM.repB; simp only [List.append_assoc]] at hD63
    have hrl := DefM.repB_length (more := more) (far := far') ha hd
    exact ⟨rfl, ⟨k + m, sl63, _, ents', rfl, by omega, hD63, hE63, by rw [List.length_append, hrl]; omega, hB31.more (by omega), it + 1, by rw [hstep, if_neg (by omega), symF_eq len_mono hsa, symF_eq dist_mono hsd, show m - (lenBase a).1 = more by omega, show q - (distBase d).1 = far' by omega]⟩, by dsimp only; omega⟩
end Go.Proofs.Ytofejgaanpaieaa
