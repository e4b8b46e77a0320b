/- Texts of this seat in one: made by a program of ours. -/
import Derived.Test.YtfoeooddnmppnaaDoorZipPackedQ0
import Derived.Test.YtfoeooddnmppnaaDoorZipPackedQ1
import Derived.Test.YtfoeooddnmppnaaDoorZipPackedQ3
import Derived.Test.YtfoeooddnmppnaaDoorZipPackedQ4
import Derived.Test.YtfoeooddnmppnaaDoorProg
import Derived.Deep.Slices
import Derived.Deep.Fields
import Derived.ChangeSame
import Derived.SizedLaws
import Derived.Test.YtfoeooddnmppnaaDoorRows
import Derived.Test.YtfoeooddnmppnaaDoorCards
import Derived.Test.YtfoeooddnmppnaaDoorTie
import Derived.WalkKit
import Derived.ProofKit
import Derived.OpenShut
import Derived.ShutString
import Derived.ChangeOld
import Derived.Below
import Derived.SevenTiedAt
import Derived.LaidMore
import Derived.Lay
import Derived.LaidOnce
/- Streams that are written say their text. Condition: the text is no longer than a slice may be. -/
set_option linter.unusedVariables false
namespace DefM
open BitsM HuffM InfM SumM Go.Proofs.YtfoeooddnmppnaaDoor

theorem sym_code {ls : List Nat} (hf : Fits ls) {s n : Nat} (h : ls[s]? = some n) (h1 : 1 ≤ n) (F rest : List Bool) : sym ls (F ++ (cbits ls s ++ rest)) F.length = .ok (s, F.length + n) := by
  refine sym_at ?_
  rw [List.drop_left]
  exact (cbits_prefix hf h h1 _).1 (List.prefix_append ..)
theorem take_low (F rest : List Bool) (n x : Nat) : take (F ++ (lowB n x ++ rest)) n F.length = .ok (x % 2 ^ n, F.length + n) := by
  have h1 : (lowB n x).length = n := lowB_length n x
  unfold take
  rw [if_pos (by simp only [List.length_append, h1]; omega), List.drop_left]
  have : (lowB n x ++ rest).take n = lowB n x := by
    have := List.take_left' (l₁ := lowB n x) (l₂ := rest) h1
    exact this
  rw [this, num_lowB]
theorem copy_take {s : List UInt8} {i back : Nat} (hb : 1 ≤ back) (hi : back ≤ i) (A : List UInt8) : ∀ n, i + n ≤ s.length → (∀ j, j < n → s[i - back + j]? = s[i + j]?) → copy back n (A ++ s.take i) = A ++ s.take (i + n)
  | 0, _, _ => rfl
  | n + 1, hl, hj => by
    rw [copy_succ, copy_take hb hi A n (by omega) fun j h => hj j (by omega)]
    have hlt : i + n < s.length := by omega
    rw [show i + (n + 1) = i + n + 1 by omega, List.take_succ_eq_append_getElem hlt, ← List.append_assoc]
    congr 2
    have h1 : (A ++ s.take (i + n)).length - back = A.length + (i - back + n) := by rw [List.length_append, List.length_take]; omega
    rw [h1, List.getD_eq_getElem?_getD, List.getElem?_append_right (by omega), Nat.add_sub_cancel_left, List.getElem?_take_of_lt (by omega), hj n (by omega), List.getElem?_eq_getElem hlt]
    rfl
/-- These bits are symbols, by the fixed codes, that say the first i bytes. -/
def Enc (s : List UInt8) (i : Nat) (L : List Bool) : Prop := ∀ (F : List Bool) (A : List UInt8) (most : Nat) (rest : List Bool), A.length ≤ most → ∃ k, k ≤ L.length ∧
  ∀ f, packed fixedLit fixedDist most (F ++ (L ++ rest)) (f + k) F.length A = if A.length + i ≤ most then packed fixedLit fixedDist most (F ++ (L ++ rest)) f (F.length + L.length) (A ++ s.take i) else .error 2
theorem enc_zero (s : List UInt8) : Enc s 0 [] := fun F A most rest hA => ⟨0, Nat.le_refl _, fun f => by
  rw [if_pos (by omega), List.take_zero, List.append_nil]; rfl⟩
theorem lit_fits : Fits fixedLit := chk_fits fixedLit_chk
theorem dist_fits : Fits fixedDist := chk_fits fixedDist_chk
theorem lit_get {s : Nat} (h : s < 288) : fixedLit[s]? = some (fixN s) := by
  rw [fixedLit_eq, List.getElem?_map, List.getElem?_range h]; rfl
theorem dist_get {s : Nat} (h : s < 32) : fixedDist[s]? = some 5 := by
  rw [fixedDist_eq, List.getElem?_map, List.getElem?_range h]; rfl
theorem fixN_le (s : Nat) : 7 ≤ fixN s ∧ fixN s ≤ 9 := by unfold fixN; split <;> (try split) <;> omega
theorem lit_len {s : Nat} (h : s < 288) : (cbits fixedLit s).length = fixN s := by rw [cbits_length, getD_of (lit_get h)]
theorem dist_len {s : Nat} (h : s < 32) : (cbits fixedDist s).length = 5 := by rw [cbits_length, getD_of (dist_get h)]
/-- One more step, whatever it is. -/
theorem enc_step {s : List UInt8} {i i2 : Nat} {L X : List Bool} (h : Enc s i L) (hi : i ≤ i2) (hs : i ≤ s.length) (hX : 1 ≤ X.length)
    (step : ∀ (G : List Bool) (A : List UInt8) (most f : Nat) (rest : List Bool), A.length + i ≤ most → packed fixedLit fixedDist most (G ++ (X ++ rest)) (f + 1) G.length (A ++ s.take i) = if A.length + i2 ≤ most then packed fixedLit fixedDist most (G ++ (X ++ rest)) f (G.length + X.length) (A ++ s.take i2) else .error 2) : Enc s i2 (L ++ X) := fun F A most rest hA => by
  obtain ⟨k, hk, hp⟩ := h F A most (X ++ rest) hA
  refine ⟨k + 1, by rw [List.length_append]; omega, fun f => ?_⟩
  rw [List.append_assoc L X rest, show f + (k + 1) = f + 1 + k by omega, hp]
  by_cases hle : A.length + i ≤ most
  · rw [if_pos hle]
    have := step (F ++ L) A most f rest hle
    rw [List.append_assoc F L, List.length_append] at this
    rw [this, List.length_append, Nat.add_assoc]
  · rw [if_neg hle, if_neg (by omega)]
theorem enc_lit {s : List UInt8} {i : Nat} {L : List Bool} (h : Enc s i L) {c : UInt8} (hc : s[i]? = some c) : Enc s (i + 1) (L ++ cbits fixedLit c.toNat) := by
  obtain ⟨hlt, hc'⟩ := List.getElem?_eq_some_iff.1 hc
  have hb := c.toNat_lt
  refine enc_step h (by omega) (by omega) (by rw [lit_len (by omega)]; have := fixN_le c.toNat; omega) fun G A most f rest hle => ?_
  rw [packed, sym_code lit_fits (lit_get (by omega)) (by have := fixN_le c.toNat; omega)]
  dsimp only
  rw [if_neg (by omega), if_pos (by omega), UInt8.ofNat_toNat, lit_len (by omega)]
  have hl : (A ++ s.take i).length = A.length + i := by rw [List.length_append, List.length_take]; omega
  rw [hl]
  by_cases hm : A.length + i = most
  · rw [if_pos hm, if_neg (by omega)]
  · rw [if_neg hm, if_pos (by omega), List.append_assoc, List.take_succ_eq_append_getElem hlt, hc']
/-- The bits of a repeat. -/
def repB (a more d far : Nat) : List Bool := cbits fixedLit (257 + a) ++ (lowB (lenBase a).2 more ++ (cbits fixedDist d ++ lowB (distBase d).2 far))
theorem repB_length {a more d far : Nat} (ha : a ≤ 28) (hd : d ≤ 29) : (repB a more d far).length = fixN (257 + a) + (lenBase a).2 + 5 + (distBase d).2 := by
  unfold repB
  simp only [List.length_append, lit_len (show 257 + a < 288 by omega), dist_len (show d < 32 by omega), lowB_length]
  omega
theorem enc_rep {s : List UInt8} {i : Nat} {L : List Bool} (h : Enc s i L) {a more d far : Nat} (ha : a ≤ 28) (hd : d ≤ 29) (hm : more < 2 ^ (lenBase a).2) (hfar : far < 2 ^ (distBase d).2)
    (hback : (distBase d).1 + far ≤ i) (hn : i + ((lenBase a).1 + more) ≤ s.length) (hj : ∀ j, j < (lenBase a).1 + more → s[i - ((distBase d).1 + far) + j]? = s[i + j]?) : Enc s (i + ((lenBase a).1 + more)) (L ++ repB a more d far) := by
  have hb1 := (distBase_le d hd).1
  refine enc_step h (by omega) (by omega) (by rw [repB_length ha hd]; omega) fun G A most f rest hle => ?_
  have hG1 : G ++ (repB a more d far ++ rest) = G ++ (cbits fixedLit (257 + a) ++ (lowB (lenBase a).2 more ++ (cbits fixedDist d ++ (lowB (distBase d).2 far ++ rest)))) := by
    unfold repB; simp only [List.append_assoc]
  have f1 := sym_code lit_fits (lit_get (show 257 + a < 288 by omega)) (by have := fixN_le (257 + a); omega) G (lowB (lenBase a).2 more ++ (cbits fixedDist d ++ (lowB (distBase d).2 far ++ rest)))
  have f2 := take_low (G ++ cbits fixedLit (257 + a)) (cbits fixedDist d ++ (lowB (distBase d).2 far ++ rest)) (lenBase a).2 more
  have f3 := sym_code dist_fits (dist_get (show d < 32 by omega)) (by omega) (G ++ cbits fixedLit (257 + a) ++ lowB (lenBase a).2 more) (lowB (distBase d).2 far ++ rest)
  have f4 := take_low (G ++ cbits fixedLit (257 + a) ++ lowB (lenBase a).2 more ++ cbits fixedDist d) rest (distBase d).2 far
  simp only [List.append_assoc, List.length_append, lit_len (show 257 + a < 288 by omega), dist_len (show d < 32 by omega), lowB_length, Nat.mod_eq_of_lt hm, Nat.mod_eq_of_lt hfar] at f1 f2 f3 f4
  rw [hG1, repB_length ha hd]
  generalize G ++ (cbits fixedLit (257 + a) ++ (lowB (lenBase a).2 more ++ (cbits fixedDist d ++ (lowB (distBase d).2 far ++ rest)))) = B at f1 f2 f3 f4 ⊢
  rw [packed, f1]
  dsimp only
  rw [if_neg (by omega), if_neg (by omega), rep, if_neg (by omega), show 257 + a - 257 = a by omega, f2]
  dsimp only
  rw [show G.length + (fixN (257 + a)) + (lenBase a).2 = G.length + (fixN (257 + a) + (lenBase a).2) by omega] at *
  rw [f3]
  dsimp only
  rw [if_neg (by omega)]
  rw [show G.length + (fixN (257 + a) + (lenBase a).2) + 5 = G.length + (fixN (257 + a) + ((lenBase a).2 + 5)) by omega] at *
  rw [f4]
  dsimp only
  have hl : (A ++ s.take i).length = A.length + i := by rw [List.length_append, List.length_take]; omega
  rw [hl, if_neg (by omega), copy_take (by omega) hback A _ hn hj]
  by_cases hmm : most < A.length + i + ((lenBase a).1 + more)
  · rw [if_pos hmm, if_neg (by omega)]
  · rw [if_neg hmm, if_pos (by omega)]
    dsimp only
    congr 1
    omega
/-- This stream says this text, at whatever place and behind whatever came out before. -/
def StreamAt (t s : List UInt8) (p : Nat) : Prop := ∀ (F : List Bool) (A : List UInt8) (most : Nat) (back : List UInt8) (f : Nat), F.length % 8 = 0 → A.length ≤ most → t.length < f →
  blocks most (F ++ sbits (t ++ back)) f F.length A = if A.length + s.length ≤ most then .ok (A ++ s, F.length + p) else .error 2
def Stream (t s : List UInt8) : Prop := ∃ p, (p + 7) / 8 = t.length ∧ StreamAt t s p
theorem stream_packed {s : List UInt8} {L : List Bool} (h : Enc s s.length L) : Stream (textOf (lowB 3 3 ++ (L ++ cbits fixedLit 256))) s := by
  refine ⟨3 + (L.length + 7), ?_, fun F A most back f hF hA hf => ?_⟩
  · rw [textOf_length, List.length_append, List.length_append, lowB_length, lit_len (by omega)]
    rfl
  obtain ⟨g, rfl⟩ : ∃ g, f = g + 1 := ⟨f - 1, by omega⟩
  obtain ⟨Z, hZ⟩ : ∃ Z, sbits (textOf (lowB 3 3 ++ (L ++ cbits fixedLit 256)) ++ back) = lowB 3 3 ++ (L ++ (cbits fixedLit 256 ++ Z)) := by
    refine ⟨List.replicate (8 * (((lowB 3 3 ++ (L ++ cbits fixedLit 256)).length + 7) / 8) - (lowB 3 3 ++ (L ++ cbits fixedLit 256)).length) false ++ sbits back, ?_⟩
    rw [sbits_append, sbits_textOf]
    unfold fill8
    simp only [List.append_assoc]
  rw [hZ]
  have ht := take_low F (L ++ (cbits fixedLit 256 ++ Z)) 3 3
  have hs := sym_code lit_fits (lit_get (show 256 < 288 by omega)) (by have := fixN_le 256; omega) (F ++ (lowB 3 3 ++ L)) Z
  obtain ⟨k, hk, hp⟩ := h (F ++ lowB 3 3) A most (cbits fixedLit 256 ++ Z) hA
  have hBl : (F ++ (lowB 3 3 ++ (L ++ (cbits fixedLit 256 ++ Z)))).length = F.length + (3 + (L.length + (7 + Z.length))) := by
    simp only [List.length_append, lowB_length, lit_len (show 256 < 288 by omega)]; rfl
  simp only [List.append_assoc, List.length_append, lowB_length] at hs hp
  generalize F ++ (lowB 3 3 ++ (L ++ (cbits fixedLit 256 ++ Z))) = B at ht hs hp hBl ⊢
  rw [blocks, ht]
  dsimp only
  rw [block, if_neg (by decide), if_pos (by decide), hBl]
  obtain ⟨j, hj⟩ : ∃ j, F.length + (3 + (L.length + (7 + Z.length))) + 1 = j + 1 + k := ⟨F.length + (3 + (L.length + (7 + Z.length))) - k, by omega⟩
  rw [hj, hp]
  by_cases hm : A.length + s.length ≤ most
  · rw [if_pos hm, if_pos hm, packed, show F.length + 3 + L.length = F.length + (3 + L.length) by omega, hs]
    dsimp only
    rw [if_pos rfl]
    dsimp only
    rw [if_pos (by decide), List.take_length]
    congr 2
  · rw [if_neg hm, if_neg hm]
theorem num_little2 (n : Nat) (h : n < 65536) (rest : List UInt8) : num ((sbits (littleB 2 n ++ rest)).take 16) = n := by
  have hl : (sbits (littleB 2 n)).length = 16 := by rw [sbits_length, littleB_length]
  rw [sbits_append]
  have : (sbits (littleB 2 n) ++ sbits rest).take 16 = sbits (littleB 2 n) := List.take_left' hl
  rw [this, show littleB 2 n = [UInt8.ofNat n, UInt8.ofNat (n / 256)] by simp [littleB, List.range_succ]]
  simp only [sbits, List.append_nil, num_append, num_lowB, lowB_length]
  simp
  omega
theorem bytes_here (c rest : List UInt8) : bytesAt (sbits (c ++ rest)) c.length 0 = c := by
  rw [bytesAt_of, List.drop_zero]
  have := bytesOf_sbits [] 0 rfl (c ++ rest) c.length (by rw [List.length_append]; omega)
  rw [List.nil_append, Nat.zero_add] at this
  rw [this, List.take_left]
  rfl
theorem bytesAt_drop (B : List Bool) (n p : Nat) : bytesAt B n p = bytesAt (B.drop p) n 0 := by
  rw [bytesAt_of, bytesAt_of, List.drop_zero]
theorem stored_block {most : Nat} {F : List Bool} {A c rest : List UInt8} {fl f : Nat} (hF : F.length % 8 = 0) (hfl : fl ≤ 1) (hc : c.length ≤ 65535) :
    blocks most (F ++ sbits (shead fl c.length ++ (c ++ rest))) (f + 1) F.length A =
      if A.length + c.length ≤ most then (if fl = 1 then .ok (A ++ c, F.length + 8 * (5 + c.length)) else blocks most (F ++ sbits (shead fl c.length ++ (c ++ rest))) f (F.length + 8 * (5 + c.length)) (A ++ c)) else .error 2 := by
  have hsp : sbits (shead fl c.length ++ (c ++ rest)) = lowB 3 fl ++ (List.replicate 5 false ++ sbits (littleB 2 c.length ++ (littleB 2 (65535 - c.length) ++ (c ++ rest)))) := by
    have hb : sbits [UInt8.ofNat fl] = lowB 3 fl ++ List.replicate 5 false := by rcases (show fl = 0 ∨ fl = 1 by omega) with rfl | rfl <;> rfl
    unfold shead
    rw [List.append_assoc, sbits_append, hb, List.append_assoc, List.append_assoc]
  have ht := take_low F (List.replicate 5 false ++ sbits (littleB 2 c.length ++ (littleB 2 (65535 - c.length) ++ (c ++ rest)))) 3 fl
  rw [← hsp] at ht
  have hX : (F ++ (lowB 3 fl ++ List.replicate 5 false)).length = F.length + 8 := by simp [lowB_length]
  have hd : (F ++ sbits (shead fl c.length ++ (c ++ rest))).drop (F.length + 8) = sbits (littleB 2 c.length ++ (littleB 2 (65535 - c.length) ++ (c ++ rest))) := by
    rw [hsp, ← List.append_assoc (lowB 3 fl), ← List.append_assoc F, ← hX, List.drop_left]
  have hBl : (F ++ sbits (shead fl c.length ++ (c ++ rest))).length = F.length + 8 * (5 + c.length + rest.length) := by
    rw [List.length_append, sbits_length, List.length_append, shead_length, List.length_append]; omega
  have hd2 : (F ++ sbits (shead fl c.length ++ (c ++ rest))).drop (F.length + 8 + 16) = sbits (littleB 2 (65535 - c.length) ++ (c ++ rest)) := by
    rw [← List.drop_drop, hd, show 16 = 8 * 2 from rfl, ← sbits_drop, List.drop_left' (littleB_length 2 _)]
  have hd3 : (F ++ sbits (shead fl c.length ++ (c ++ rest))).drop (F.length + 8 + 32) = sbits (c ++ rest) := by
    rw [show F.length + 8 + 32 = F.length + 8 + 16 + 16 by omega, ← List.drop_drop, hd2, show 16 = 8 * 2 from rfl, ← sbits_drop, List.drop_left' (littleB_length 2 _)]
  have hn1 := num_little2 c.length (by omega) (littleB 2 (65535 - c.length) ++ (c ++ rest))
  have hn2 := num_little2 (65535 - c.length) (by omega) (c ++ rest)
  rw [← hd] at hn1
  rw [← hd2] at hn2
  have hby := bytesAt_drop (F ++ sbits (shead fl c.length ++ (c ++ rest))) c.length (F.length + 8 + 32)
  rw [hd3, bytes_here] at hby
  generalize F ++ sbits (shead fl c.length ++ (c ++ rest)) = B at ht hBl hn1 hn2 hby ⊢
  rw [blocks, ht]
  dsimp only
  have hfl8 : fl % 2 ^ 3 = fl := by omega
  rw [hfl8, block, if_pos (by omega), stored]
  dsimp only
  rw [show (F.length + 3 + 7) / 8 * 8 = F.length + 8 by omega, if_pos (by omega), hn1, hn2, if_neg (by omega), if_pos (by omega), hby]
  by_cases hm : A.length + c.length ≤ most
  · rw [if_neg (by omega), if_pos hm]
    dsimp only
    rw [show F.length + 8 + 32 + 8 * c.length = F.length + 8 * (5 + c.length) by omega]
    by_cases h1 : fl = 1
    · rw [if_pos (by omega), if_pos h1]
    · rw [if_neg (by omega), if_neg h1]
  · rw [if_pos (by omega), if_neg hm]
theorem stream_stored : ∀ (n : Nat) (s : List UInt8), s.length = n → StreamAt (storedS s) s (8 * (storedS s).length) := fun n => by
  induction n using Nat.strongRecOn with
  | ind n ih =>
    intro s hs F A most back f hF hA hf
    obtain ⟨g, rfl⟩ : ∃ g, f = g + 1 := ⟨f - 1, by omega⟩
    by_cases h : s.length ≤ 65535
    · rw [storedS_last h, List.append_assoc, stored_block hF (by decide) h, if_pos rfl, List.length_append, shead_length]
    · have hc : (s.take 65535).length = 65535 := by rw [List.length_take]; omega
      have hb := stored_block (most := most) (F := F) (A := A) (c := s.take 65535) (rest := storedS (s.drop 65535) ++ back) (fl := 0) (f := g) hF (by decide) (by omega)
      rw [hc, if_neg (show ¬ ((0 : Nat) = 1) by decide)] at hb
      have hst := ih (n - 65535) (by omega) (s.drop 65535) (by rw [List.length_drop]; omega)
      have hlen : (storedS s).length = 5 + 65535 + (storedS (s.drop 65535)).length := by
        rw [storedS_more h, List.length_append, List.length_append, shead_length, hc]
      rw [hlen] at hf ⊢
      rw [storedS_more h]
      rw [show shead 0 65535 ++ s.take 65535 ++ storedS (s.drop 65535) ++ back = shead 0 65535 ++ (s.take 65535 ++ (storedS (s.drop 65535) ++ back)) by simp only [List.append_assoc], hb]
      have hF2 : (F ++ sbits (shead 0 65535 ++ s.take 65535)).length = F.length + 8 * (5 + 65535) := by rw [List.length_append, sbits_length, List.length_append, shead_length, hc]
      have h2 := fun hm => hst (F ++ sbits (shead 0 65535 ++ s.take 65535)) (A ++ s.take 65535) most back g (by rw [hF2]; omega) hm (by omega)
      rw [hF2, List.append_assoc, ← sbits_append, List.append_assoc, List.length_append, hc, List.length_drop, List.append_assoc, List.take_append_drop] at h2
      by_cases hm : A.length + 65535 ≤ most
      · rw [if_pos hm, h2 hm]
        by_cases hm2 : A.length + s.length ≤ most
        · rw [if_pos (by omega), if_pos hm2]
          congr 2
          omega
        · rw [if_neg (by omega), if_neg hm2]
      · rw [if_neg hm, if_neg (by omega)]
end DefM
namespace Go.Proofs.YtfoeooddnmppnaaDoor
open Go Vc BitsM HuffM InfM SumM Go.Proofs

/-- The last symbol whose base is not above a number. -/
def SymOf (base : Nat → Nat × Nat) (top n a : Nat) : Prop := a ≤ top ∧ (base a).1 ≤ n ∧ (a = top ∨ n < (base (a + 1)).1)
open Classical in
noncomputable def symF (base : Nat → Nat × Nat) (top n : Nat) : Nat := if h : ∃ a, SymOf base top n a then h.choose else 0
theorem symOf_one {base : Nat → Nat × Nat} {top n a b : Nat} (mono : ∀ i j, i < j → j ≤ top → (base i).1 < (base j).1) (h : SymOf base top n a) (h' : SymOf base top n b) : a = b := by
  obtain ⟨h1, h2, h3⟩ := h
  obtain ⟨g1, g2, g3⟩ := h'
  rcases Nat.lt_trichotomy a b with hlt | rfl | hlt
  · rcases h3 with rfl | h3
    · omega
    · by_cases hab : a + 1 = b
      · rw [hab] at h3; omega
      · have := mono (a + 1) b (by omega) g1; omega
  · rfl
  · rcases g3 with rfl | g3
    · omega
    · by_cases hab : b + 1 = a
      · rw [hab] at g3; omega
      · have := mono (b + 1) a (by omega) h1; omega
theorem symF_eq {base : Nat → Nat × Nat} {top n a : Nat} (mono : ∀ i j, i < j → j ≤ top → (base i).1 < (base j).1) (h : SymOf base top n a) : symF base top n = a := by
  have hx : ∃ a, SymOf base top n a := ⟨a, h⟩
  unfold symF
  rw [dif_pos hx]
  exact symOf_one mono hx.choose_spec h
theorem len_mono : ∀ i j, i < j → j ≤ 28 → (lenBase i).1 < (lenBase j).1 := fun i j hi hj => by
  have : ∀ j, j ≤ 28 → ∀ i, i < j → (lenBase i).1 < (lenBase j).1 := by decide +kernel
  exact this j hj i hi
theorem dist_mono : ∀ i j, i < j → j ≤ 29 → (distBase i).1 < (distBase j).1 := fun i j hi hj => by
  have : ∀ j, j ≤ 29 → ∀ i, i < j → (distBase i).1 < (distBase j).1 := by decide +kernel
  exact this j hj i hi
/-- How many bytes are alike. -/
def alike (s : List UInt8) (a i : Nat) : Nat → Nat → Nat
  | 0, m => m
  | f + 1, m => if i + m < s.length ∧ s[a + m]? = s[i + m]? then alike s a i f (m + 1) else m
/-- What is found at a place: how many bytes, how far back, the entries behind. -/
def dfind (s : ByteArray) (i : Nat) (ents : List (ByteArray × Value)) : Nat × Nat × List (ByteArray × Value) :=
  if i + 3 ≤ s.size then
    match mlook ents (s.extract i (i + 3)) with
    | some (.int _ v) => if i - v.toNat ≤ 32768 then (alike s.data.toList v.toNat i 258 0, i - v.toNat, mupd ents (s.extract i (i + 3)) (.int .i64 (i : Int))) else (0, 0, mupd ents (s.extract i (i + 3)) (.int .i64 (i : Int)))
    | _ => (0, 0, mupd ents (s.extract i (i + 3)) (.int .i64 (i : Int)))
  else (0, 0, ents)
/-- One symbol, or one repeat, more. -/
noncomputable def dstep (s : ByteArray) (x : Nat × List Bool × List (ByteArray × Value)) : Nat × List Bool × List (ByteArray × Value) :=
  if (dfind s x.1 x.2.2).1 < 3 then (x.1 + 1, x.2.1 ++ cbits fixedLit (byt s x.1), (dfind s x.1 x.2.2).2.2)
  else (x.1 + (dfind s x.1 x.2.2).1, x.2.1 ++ DefM.repB (symF lenBase 28 (dfind s x.1 x.2.2).1) ((dfind s x.1 x.2.2).1 - (lenBase (symF lenBase 28 (dfind s x.1 x.2.2).1)).1) (symF distBase 29 (dfind s x.1 x.2.2).2.1) ((dfind s x.1 x.2.2).2.1 - (distBase (symF distBase 29 (dfind s x.1 x.2.2).2.1)).1), (dfind s x.1 x.2.2).2.2)
noncomputable def diter (s : ByteArray) : Nat → Nat × List Bool × List (ByteArray × Value)
  | 0 => (0, [], [])
  | n + 1 => dstep s (diter s n)
theorem diter_lt (s : ByteArray) : ∀ n d, (diter s n).1 + d + 1 ≤ (diter s (n + d + 1)).1 := fun n d => by
  have step : ∀ m, (diter s m).1 + 1 ≤ (diter s (m + 1)).1 := fun m => by
    rw [diter, dstep]
    split <;> dsimp only <;> omega
  induction d with
  | zero => exact step n
  | succ d ih => have := step (n + d + 1); rw [show n + (d + 1) + 1 = n + d + 1 + 1 by omega]; omega
theorem diter_one {s : ByteArray} {n m : Nat} (h : (diter s n).1 = (diter s m).1) : n = m := by
  rcases Nat.lt_trichotomy n m with hlt | rfl | hlt
  · have := diter_lt s n (m - n - 1); rw [show n + (m - n - 1) + 1 = m by omega] at this; omega
  · rfl
  · have := diter_lt s m (n - m - 1); rw [show m + (n - m - 1) + 1 = n by omega] at this; omega
open Classical in
/-- The stream that is written. -/
noncomputable def deflT (s : ByteArray) : List UInt8 :=
  if h : ∃ n, (diter s n).1 = s.size then
    (if (textOf (lowB 3 3 ++ (diter s h.choose).2.1 ++ cbits fixedLit 256)).length < (storedS s.data.toList).length then textOf (lowB 3 3 ++ (diter s h.choose).2.1 ++ cbits fixedLit 256) else storedS s.data.toList)
  else []
theorem deflT_eq {s : ByteArray} {n : Nat} {L : List Bool} {ents : List (ByteArray × Value)} (h : diter s n = (s.size, L, ents)) :
    deflT s = if (textOf (lowB 3 3 ++ L ++ cbits fixedLit 256)).length < (storedS s.data.toList).length then textOf (lowB 3 3 ++ L ++ cbits fixedLit 256) else storedS s.data.toList := by
  have hx : ∃ n, (diter s n).1 = s.size := ⟨n, by rw [h]⟩
  unfold deflT
  rw [dif_pos hx]
  have : hx.choose = n := diter_one (hx.choose_spec.trans (by rw [h]))
  rw [this, h]
theorem len_next : ∀ k, k < 28 → (lenBase (k + 1)).1 ≤ (lenBase k).1 + 2 ^ (lenBase k).2 := by decide +kernel
theorem dist_next : ∀ k, k < 29 → (distBase (k + 1)).1 ≤ (distBase k).1 + 2 ^ (distBase k).2 := by decide +kernel
/-- The symbol of a length. -/
theorem symlen_spec {n : Nat} (h3 : 3 ≤ n) (hn : n ≤ 258) (w : World) :
    Calls Tryd.prog F_inflate_symbolOf #[.int .i64 (n : Int), .int .i64 28, .func (.func F_inflate_lengthBase) #[] #[]] w fun e w' => ∃ a more : Nat, e = .returned (.tuple #[.int .i64 (a : Int), .int .u32 (more : Int), .int .i64 (((lenBase a).2 : Nat) : Int)]) ∧
      a ≤ 28 ∧ (lenBase a).1 + more = n ∧ more < 2 ^ (lenBase a).2 ∧ SymOf lenBase 28 n a ∧ w' = w := by
  refine vc_inflate_symbolOf_len_ok (R := fun v w' => ∃ a more : Nat, v = .tuple #[.int .i64 (a : Int), .int .u32 (more : Int), .int .i64 (((lenBase a).2 : Nat) : Int)] ∧ a ≤ 28 ∧ (lenBase a).1 + more = n ∧ more < 2 ^ (lenBase a).2 ∧ SymOf lenBase 28 n a ∧ w' = w) ?_ (fun v w' ⟨a, more, h⟩ => ⟨a, more, by rw [h.1], h.2⟩)
  refine ⟨fun i w' => ∃ k : Nat, i = (k : Int) ∧ k ≤ 28 ∧ (k = 28 ∨ n < (lenBase (k + 1)).1) ∧ w' = w, fun i _ => i.toNat, ⟨28, rfl, by omega, .inl rfl, rfl⟩, ?_⟩
  rintro i w4 ⟨k, rfl, hk, hnext, hw⟩
  replace hw := hw.symm
  subst hw
  refine (lbase_spec k hk w).mono ?_
  rintro e w6 ⟨rfl, hw⟩
  replace hw := hw.symm
  subst hw
  have hb := lenBase_le k hk
  refine ⟨_, _, rfl, fun hle => ?_, fun hgt => ?_⟩
  · have hle := of_decide_eq_true hle
    refine ⟨k, n - (lenBase k).1, ?_, hk, by omega, ?_, ⟨hk, by omega, hnext⟩, rfl⟩
    · rw [wrap_i64 (by omega) (by omega), wrap_u32 (by omega) (by omega), show ((n : Int) - ((lenBase k).1 : Int)) = ((n - (lenBase k).1 : Nat) : Int) by omega]
    · have hp := Nat.two_pow_pos (lenBase k).2
      rcases hnext with rfl | hlt
      · have : (lenBase 28).1 = 258 := rfl
        omega
      · by_cases h28 : k = 28
        · subst h28
          have : (lenBase 28).1 = 258 := rfl
          omega
        · have := len_next k (by omega)
          omega
  · have hgt := of_decide_eq_false hgt
    have h0 : k ≠ 0 := fun hh => by subst hh; have : (lenBase 0).1 = 3 := rfl; omega
    obtain ⟨j, rfl⟩ : ∃ j, k = j + 1 := ⟨k - 1, by omega⟩
    have e1 : IntKind.i64.wrap (((j + 1 : Nat) : Int) - 1) = (j : Int) := by rw [wrap_i64 (by omega) (by omega)]; omega
    rw [e1]
    exact ⟨⟨j, rfl, by omega, .inr (by omega), rfl⟩, by dsimp only; omega⟩
/-- The symbol of a distance. -/
theorem symdist_spec {n : Nat} (h1 : 1 ≤ n) (hn : n ≤ 32768) (w : World) :
    Calls Tryd.prog F_inflate_symbolOf #[.int .i64 (n : Int), .int .i64 29, .func (.func F_inflate_distBase) #[] #[]] w fun e w' => ∃ a more : Nat, e = .returned (.tuple #[.int .i64 (a : Int), .int .u32 (more : Int), .int .i64 (((distBase a).2 : Nat) : Int)]) ∧
      a ≤ 29 ∧ (distBase a).1 + more = n ∧ more < 2 ^ (distBase a).2 ∧ SymOf distBase 29 n a ∧ w' = w := by
  refine vc_inflate_symbolOf_dist_ok (R := fun v w' => ∃ a more : Nat, v = .tuple #[.int .i64 (a : Int), .int .u32 (more : Int), .int .i64 (((distBase a).2 : Nat) : Int)] ∧ a ≤ 29 ∧ (distBase a).1 + more = n ∧ more < 2 ^ (distBase a).2 ∧ SymOf distBase 29 n a ∧ w' = w) ?_ (fun v w' ⟨a, more, h⟩ => ⟨a, more, by rw [h.1], h.2⟩)
  refine ⟨fun i w' => ∃ k : Nat, i = (k : Int) ∧ k ≤ 29 ∧ (k = 29 ∨ n < (distBase (k + 1)).1) ∧ w' = w, fun i _ => i.toNat, ⟨29, rfl, by omega, .inl rfl, rfl⟩, ?_⟩
  rintro i w4 ⟨k, rfl, hk, hnext, hw⟩
  replace hw := hw.symm
  subst hw
  refine (dbase_spec k hk w).mono ?_
  rintro e w6 ⟨rfl, hw⟩
  replace hw := hw.symm
  subst hw
  have hb := distBase_le k hk
  refine ⟨_, _, rfl, fun hle => ?_, fun hgt => ?_⟩
  · have hle := of_decide_eq_true hle
    refine ⟨k, n - (distBase k).1, ?_, hk, by omega, ?_, ⟨hk, by omega, hnext⟩, rfl⟩
    · rw [wrap_i64 (by omega) (by omega), wrap_u32 (by omega) (by omega), show ((n : Int) - ((distBase k).1 : Int)) = ((n - (distBase k).1 : Nat) : Int) by omega]
    · have hp := Nat.two_pow_pos (distBase k).2
      rcases hnext with rfl | hlt
      · have : (distBase 29).1 = 24577 := rfl
        have : 2 ^ (distBase 29).2 = 8192 := rfl
        omega
      · by_cases h28 : k = 29
        · subst h28
          have : (distBase 29).1 = 24577 := rfl
          have : 2 ^ (distBase 29).2 = 8192 := rfl
          omega
        · have := dist_next k (by omega)
          omega
  · have hgt := of_decide_eq_false hgt
    have h0 : k ≠ 0 := fun hh => by subst hh; have : (distBase 0).1 = 1 := rfl; omega
    obtain ⟨j, rfl⟩ : ∃ j, k = j + 1 := ⟨k - 1, by omega⟩
    have e1 : IntKind.i64.wrap (((j + 1 : Nat) : Int) - 1) = (j : Int) := by rw [wrap_i64 (by omega) (by omega)]; omega
    rw [e1]
    exact ⟨⟨j, rfl, by omega, .inr (by omega), rfl⟩, by dsimp only; omega⟩
/-- Deflating, in order. -/
structure DSt (w0 w : World) (b lo hi lb db r : Nat) (sl : Sl) (M : List Bool) (ents : List (ByteArray × Value)) : Prop where
  wr : Wrt w b sl M
  mp : MapOf w r ents
  lit : Tab w lo hi lb fixedLit
  dist : Tab w lo hi db fixedDist
  fr : Fr (fun _ => False) w0 w
  sls : ∀ y, sl.a = some y → hi ≤ y.block ∧ y.block ≠ r
  hb : w0.heap.size ≤ b
  hlo : b < lo
  hhi : hi ≤ r
  hbr : b < r
theorem DSt.wx {w0 w : World} {b lo hi lb db r : Nat} {sl : Sl} {M : List Bool} {ents : List (ByteArray × Value)} (h : DSt w0 w b lo hi lb db r sl M ents) {k : Nat} (hk : WX b sl k) : k = b ∨ (hi ≤ k ∧ k ≠ r) := by
  rcases hk with hk | ⟨y, hy, e⟩
  · exact .inl hk
  · have := h.sls y hy; exact .inr (by omega)
theorem DSt.put {w0 w w2 : World} {b lo hi lb db r : Nat} {sl sl' : Sl} {M M' : List Bool} {ents : List (ByteArray × Value)} (h : DSt w0 w b lo hi lb db r sl M ents) (hw : Wrt w2 b sl' M') (hf : Fr (WX b sl) w w2) (hs : Since w sl sl') : DSt w0 w2 b lo hi lb db r sl' M' ents := by
  have hlo := h.hlo
  have hhi := h.hhi
  have hbr := h.hbr
  refine ⟨hw, h.mp.keep hf fun hx => ?_, h.lit.keep hf fun k h1 h2 hx => ?_, h.dist.keep hf fun k h1 h2 hx => ?_, h.fr.trans hf fun k hk hx => ?_, fun y hy => ?_, h.hb, h.hlo, h.hhi, h.hbr⟩
  · have := h.wx hx; omega
  · have := h.wx hx; omega
  · have := h.wx hx; omega
  · rcases hx with hx | ⟨y, hy, e⟩
    · have := h.hb; omega
    · have := (h.wr.1.own.blk hy).1; have := h.hb; omega
  · rcases hs y hy with ⟨x, hx, he⟩ | hn
    · have := h.sls x hx; omega
    · have := h.mp.lt; omega
theorem DSt.keep {w0 w w2 : World} {b lo hi lb db r : Nat} {sl : Sl} {M : List Bool} {ents : List (ByteArray × Value)} (h : DSt w0 w b lo hi lb db r sl M ents) (hf : Fr (fun _ => False) w w2) : DSt w0 w2 b lo hi lb db r sl M ents :=
  ⟨h.wr.keep hf (by simp) (by simp), h.mp.keep hf (by simp), h.lit.keep hf (by simp), h.dist.keep hf (by simp), h.fr.trans' hf, h.sls, h.hb, h.hlo, h.hhi, h.hbr⟩
theorem DSt.drew {w0 w w2 : World} {b lo hi lb db r : Nat} {sl : Sl} {M : List Bool} {ents : List (ByteArray × Value)} (h : DSt w0 w b lo hi lb db r sl M ents) (d : Drew w w2) : DSt w0 w2 b lo hi lb db r sl M ents := h.keep (.drew _ d)
theorem DSt.map {w0 w w2 : World} {b lo hi lb db r : Nat} {sl : Sl} {M : List Bool} {ents ents' : List (ByteArray × Value)} (h : DSt w0 w b lo hi lb db r sl M ents) (hm : MapOf w2 r ents') (hf : Fr (· = r) w w2) : DSt w0 w2 b lo hi lb db r sl M ents' := by
  have hhi := h.hhi
  have hbr := h.hbr
  have hb := h.hb
  refine ⟨h.wr.keep hf (by omega) (fun y hy => (h.sls y hy).2), hm, h.lit.keep hf (fun k h1 h2 => by omega), h.dist.keep hf (fun k h1 h2 => by omega), h.fr.trans hf fun k hk hx => by omega, h.sls, hb, h.hlo, hhi, hbr⟩
/-- A code put. -/
theorem code_put {w : World} {b : Nat} {sl : Sl} {M : List Bool} (h : Wrt w b sl M) {lo hi tb : Nat} {ls : List Nat} (ht : Tab w lo hi tb ls) {s n : Nat} (hs : ls[s]? = some n) (h1 : 1 ≤ n) (hl : M.length + 32 ≤ 1099511627776) {Q : World → Prop}
    (hQ : ∀ w2 sl', Wrt w2 b sl' (M ++ cbits ls s) → Fr (WX b sl) w w2 → Since w sl sl' → Q w2) :
    Calls Tryd.prog F_huff_Table_Code #[.pointer (some ⟨tb, 0, none⟩), .int .i64 (s : Int)] w fun e w' => ∃ x k : Int, e = .returned (.tuple #[.int .u32 x, .int .i64 k]) ∧
      Calls Tryd.prog F_bitin_Writer_Code #[.pointer (some ⟨b, 0, none⟩), .int .u32 x, .int .i64 k] w' fun e w2 => e = .returned (.tuple #[]) ∧ Q w2 := by
  refine (hcode_spec ht (s : Int)).mono ?_
  rintro e w' ⟨rfl, hw⟩
  replace hw := hw.symm
  subst hw
  have hg : ls.getD s 0 = n := getD_of hs
  have hn15 := ht.fits.mem hs
  have hcd : cd ls (s : Int) = (code ls s, n) := by
    unfold cd
    rw [Int.toNat_natCast, hg, if_pos ⟨by omega, by omega⟩]
  rw [hcd]
  have hc1 := code_lt hs h1
  have hc2 := ht.fits.le hn15
  have hp : 2 ^ n ≤ 2 ^ 15 := Nat.pow_le_pow_right (by decide) hn15
  refine ⟨_, _, rfl, (wcode_spec h (x := code ls s) (n := n) (by omega) h1 (by omega) (by omega)).mono ?_⟩
  rintro e w2 ⟨rfl, sl', hw', hf, hsn⟩
  refine ⟨rfl, hQ w2 sl' ?_ hf hsn⟩
  unfold cbits
  rw [hg]
  exact hw'
theorem get_byt {s : ByteArray} {i : Nat} (h : i < s.size) : s.data.toList[i]? = some (UInt8.ofNat (byt s i)) := by
  have hlt : i < s.data.toList.length := by simp only [Array.length_toList]; exact h
  rw [List.getElem?_eq_getElem hlt]
  unfold byt
  rw [List.getElem?_eq_getElem hlt]
  simp
/-- What stands under every key is a place before this one. -/
def Before (ents : List (ByteArray × Value)) (i : Nat) : Prop := ∀ x ∈ ents, ∃ v : Nat, x.2 = .int .i64 (v : Int) ∧ v < i
theorem Before.upd {ents : List (ByteArray × Value)} {i : Nat} (h : Before ents i) (k : ByteArray) : Before (mupd ents k (.int .i64 (i : Int))) (i + 1) :=
  mupd_all ⟨i, rfl, by omega⟩ ents fun x hx => by obtain ⟨v, h1, h2⟩ := h x hx; exact ⟨v, h1, by omega⟩
theorem Before.more {ents : List (ByteArray × Value)} {i j : Nat} (h : Before ents i) (hj : i ≤ j) : Before ents j := fun x hx => by
  obtain ⟨v, h1, h2⟩ := h x hx; exact ⟨v, h1, by omega⟩
/-- 'Deflate'. -/
theorem deflate_spec (s : ByteArray) (hs : s.size ≤ 100000000) (w : World) :
    Calls Tryd.prog F_inflate_Deflate #[.string s] w fun e w' => e = .returned (.string ⟨(deflT s).toArray⟩) ∧ DefM.Stream (deflT s) s.data.toList ∧ (deflT s).length ≤ (storedS s.data.toList).length ∧ Fr (fun _ => False) w w' := by
  refine vc_inflate_Deflate_ok (R := fun v w' => v = .string ⟨(deflT s).toArray⟩ ∧ DefM.Stream (deflT s) s.data.toList ∧ (deflT s).length ≤ (storedS s.data.toList).length ∧ Fr (fun _ => False) w w') ?_ (fun v w' h => ⟨by rw [h.1], h.2⟩)
  have hsl : s.data.toList.length = s.size := by simp
  intro w1 h1
  have hf1 : Fr (fun _ => False) w w1 := h1 ▸ Fr.alloc _ _ _
  have hw1 : Wrt w1 w.heap.size ⟨none, 0, 0⟩ [] := Wrt.zero (by rw [h1]; exact alloc_new _ _)
  have hs1 : w1.heap.size = w.heap.size + 1 := by rw [h1]; exact Array.size_push ..
  refine (fixed_spec w1).mono ?_
  rintro e w3 ⟨lb, db, rfl, hlit, hdist, hf3⟩
  have hs3 := hf3.size
  refine ⟨_, _, rfl, ?_⟩
  refine (wbits_spec (hw1.keep hf3 (by simp) (by simp)) (x := 3) (n := 3) (by decide) (by decide) (by simp)).mono ?_
  rintro e w7 ⟨rfl, sl7, hw7, hf7, hs7⟩
  refine ⟨rfl, fun w8 h8 => ?_⟩
  have hs7s := hf7.size
  have hf8 : Fr (fun _ => False) w7 w8 := h8 ▸ Fr.alloc _ _ _
  have hsl7 : ∀ y, sl7.a = some y → w3.heap.size ≤ y.block := fun y hy => by
    rcases hs7 y hy with ⟨x, hx, _⟩ | hn
    · cases hx
    · exact hn
  have hwx : ∀ k, WX w.heap.size ⟨none, 0, 0⟩ k → k = w.heap.size := fun k hk => by
    rcases hk with hk | ⟨y, hy, _⟩
    · exact hk
    · cases hy
  have hD0 : DSt w w8 w.heap.size w1.heap.size w3.heap.size lb db w7.heap.size sl7 (lowB 3 3) [] := by
    refine ⟨hw7.keep hf8 (by simp) (by simp), h8 ▸ MapOf.new, ?_, ?_, ?_, fun y hy => ⟨hsl7 y hy, ?_⟩, Nat.le_refl _, by omega, hs7s, by omega⟩
    · exact (hlit.keep hf7 fun k h1 h2 hx => by have := hwx k hx; omega).keep hf8 (by simp)
    · exact (hdist.keep hf7 fun k h1 h2 hx => by have := hwx k hx; omega).keep hf8 (by simp)
    · exact ((hf1.trans' hf3).trans hf7 fun k hk hx => by have := hwx k hx; omega).trans' hf8
    · have := (hw7.1.own.blk hy).2; omega
  generalize w7.heap.size = r at *
  generalize w.heap.size = b at *
  generalize w1.heap.size = lo at *
  generalize w3.heap.size = hi at *
  refine ⟨fun i w' => ∃ (k : Nat) (sl : Sl) (L : List Bool) (ents : List (ByteArray × Value)), i = (k : Int) ∧ k ≤ s.size ∧ DSt w w' b lo hi lb db r sl (lowB 3 3 ++ L) ents ∧ DefM.Enc s.data.toList k L ∧ L.length ≤ 32 * k ∧ Before ents k ∧ ∃ it, diter s it = (k, L, ents),
    fun i _ => s.size - i.toNat, ⟨0, sl7, [], [], rfl, Nat.zero_le _, hD0, DefM.enc_zero _, Nat.le_refl _, (by intro x hx; cases hx), 0, rfl⟩, ?_⟩
  rintro i w12 ⟨k, sl, L, ents, rfl, hk, hD, hE, hL, hB, it, hit⟩
  have hLl : (lowB 3 3 ++ L).length = 3 + L.length := by rw [List.length_append, lowB_length]
  refine ⟨fun hlt => ?_, fun hge => ?_⟩
  rotate_left 1
  · have hge := of_decide_eq_false hge
    have hkk : k = s.size := by omega
    subst hkk
    refine code_put hD.wr hD.lit (s := 256) (DefM.lit_get (by omega)) (by decide) (by omega) fun w69 sl69 hw69 hf69 hs69 => ?_
    have hD69 := hD.put hw69 hf69 hs69
    refine (wtext_spec hw69).mono ?_
    rintro e w71 ⟨rfl, hf71⟩
    refine ⟨_, rfl, ?_⟩
    have hst := DefM.stream_packed (L := L) (s := s.data.toList) (by rw [hsl]; exact hE)
    rw [← List.append_assoc] at hst
    have hdt := deflT_eq hit
    generalize textOf (lowB 3 3 ++ L ++ cbits fixedLit 256) = t at hst hdt
    have hfin := hD69.fr.trans' hf71
    have hsz : ∀ l : List UInt8, ByteArray.size ⟨l.toArray⟩ = l.length := fun l => by simp [ByteArray.size]
    refine (stored5_spec s hs w71).mono ?_
    rintro e w74 ⟨rfl, hf74⟩
    refine ⟨_, rfl, fun hlt => ?_, fun hge => ?_⟩
    · have hlt := of_decide_eq_true hlt
      rw [hsz, hsz] at hlt
      rw [if_pos (by omega)] at hdt
      rw [hdt]
      exact ⟨rfl, hst, by omega, hfin.trans' hf74⟩
    · have hge := of_decide_eq_false hge
      rw [hsz, hsz] at hge
      rw [if_neg (by omega)] at hdt
      rw [hdt]
      refine (stored5_spec s hs w74).mono ?_
      rintro e w77 ⟨rfl, hf77⟩
      exact ⟨_, rfl, rfl, ⟨8 * (storedS s.data.toList).length, by omega, DefM.stream_stored _ _ rfl⟩, Nat.le_refl _, (hfin.trans' hf74).trans' hf77⟩
  have hlt := of_decide_eq_true hlt
  have hks : k < s.size := by omega
  have e3 : IntKind.i64.wrap ((k : Int) + 3) = ((k + 3 : Nat) : Int) := by rw [wrap_i64 (by omega) (by omega)]; omega
  -- what is found
  refine ⟨fun n back w' => ∃ (m q : Nat) (ents' : List (ByteArray × Value)), n = (m : Int) ∧ back = (q : Int) ∧ DSt w w' b lo hi lb db r sl (lowB 3 3 ++ L) ents' ∧ Before ents' (k + 1) ∧ dfind s k ents = (m, q, ents') ∧
      (m < 3 ∨ (m ≤ 258 ∧ 1 ≤ q ∧ q ≤ k ∧ q ≤ 32768 ∧ k + m ≤ s.size ∧ ∀ j, j < m → s.data.toList[k - q + j]? = s.data.toList[k + j]?)), ⟨fun hle => ?_, fun hgt => ?_⟩, ?_⟩
  · have hle := of_decide_eq_true hle
    rw [e3] at hle ⊢
    refine ⟨⟨by omega, by omega, by omega⟩, ?_⟩
    rw [Int.toNat_natCast, Int.toNat_natCast]
    have hdf : dfind s k ents = match mlook ents (s.extract k (k + 3)) with
      | some (.int _ v) => if k - v.toNat ≤ 32768 then (alike s.data.toList v.toNat k 258 0, k - v.toNat, mupd ents (s.extract k (k + 3)) (.int .i64 (k : Int))) else (0, 0, mupd ents (s.extract k (k + 3)) (.int .i64 (k : Int)))
      | _ => (0, 0, mupd ents (s.extract k (k + 3)) (.int .i64 (k : Int))) := by unfold dfind; rw [if_pos (by omega)]
    generalize s.extract k (k + 3) = key at hdf ⊢
    have hlk := map_lookup (P := Tryd.prog) (mt := T_map_string_int) (kt := T_string) (et := T_int) (by kernel_rfl) (by kernel_rfl) (z := .int .i64 0) (w := w12) (by kernel_rfl) hD.mp key true
    have upd : ∀ {wx : World}, DSt w wx b lo hi lb db r sl (lowB 3 3 ++ L) ents → ∃ w', (Instr.mapUpdate T_map_string_int (.map (some r)) (.string key) (.int .i64 (k : Int))).run Tryd.prog wx = .ok () w' ∧ DSt w w' b lo hi lb db r sl (lowB 3 3 ++ L) (mupd ents key (.int .i64 (k : Int))) := fun hx => by
      obtain ⟨w', hr, hm, hf⟩ := map_update (P := Tryd.prog) (mt := T_map_string_int) (kt := T_string) (et := T_int) (by kernel_rfl) (by kernel_rfl) hx.mp key (.int .i64 (k : Int))
      exact ⟨w', hr, hx.map hm hf⟩
    have hlast : ∀ (n back : Int) (wx : World), DSt w wx b lo hi lb db r sl (lowB 3 3 ++ L) ents → (∃ m q : Nat, n = (m : Int) ∧ back = (q : Int) ∧ dfind s k ents = (m, q, mupd ents key (.int .i64 (k : Int))) ∧ (m < 3 ∨ (m ≤ 258 ∧ 1 ≤ q ∧ q ≤ k ∧ q ≤ 32768 ∧ k + m ≤ s.size ∧ ∀ j, j < m → s.data.toList[k - q + j]? = s.data.toList[k + j]?))) →
        ∃ w', (Instr.mapUpdate T_map_string_int (.map (some r)) (.string key) (.int .i64 (k : Int))).run Tryd.prog wx = .ok () w' ∧ ∃ (m q : Nat) (ents' : List (ByteArray × Value)), n = (m : Int) ∧ back = (q : Int) ∧ DSt w w' b lo hi lb db r sl (lowB 3 3 ++ L) ents' ∧ Before ents' (k + 1) ∧ dfind s k ents = (m, q, ents') ∧
          (m < 3 ∨ (m ≤ 258 ∧ 1 ≤ q ∧ q ≤ k ∧ q ≤ 32768 ∧ k + m ≤ s.size ∧ ∀ j, j < m → s.data.toList[k - q + j]? = s.data.toList[k + j]?)) := fun n back wx hx hmq => by
      obtain ⟨w', hr, hx'⟩ := upd hx
      obtain ⟨m, q, h1, h2, h4, h3⟩ := hmq
      exact ⟨w', hr, m, q, _, h1, h2, hx', hB.upd key, h4, h3⟩
    have hbnd : (0 ≤ (k : Int) ∧ (k : Int) ≤ ((k + 3 : Nat) : Int) ∧ ((k + 3 : Nat) : Int) ≤ (s.size : Int)) := ⟨by omega, by omega, by omega⟩
    cases hml : mlook ents key with
    | none =>
      rw [hml] at hlk hdf
      exact ⟨w12, 0, false, hlk, fun hh => (by cases hh), fun _ => ⟨hbnd, hlast 0 0 w12 hD ⟨0, 0, rfl, rfl, hdf, .inl (by decide)⟩⟩⟩
    | some v =>
      rw [hml] at hlk hdf
      obtain ⟨at_, hv, hat⟩ := hB _ (mlook_mem hml)
      simp only at hv
      subst hv
      dsimp only at hdf
      rw [Int.toNat_natCast] at hdf
      refine ⟨w12, at_, true, hlk, fun _ => ?_, fun hh => (by cases hh)⟩
      have e4 : IntKind.i64.wrap ((k : Int) - (at_ : Int)) = ((k - at_ : Nat) : Int) := by rw [wrap_i64 (by omega) (by omega)]; omega
      rw [e4]
      refine ⟨fun h32 => ?_, fun h32 => ⟨hbnd, hlast 0 0 w12 hD ⟨0, 0, rfl, rfl, by rw [hdf, if_neg (by have := of_decide_eq_false h32; omega)], .inl (by decide)⟩⟩⟩
      have h32 := of_decide_eq_true h32
      rw [if_pos (by omega)] at hdf
      refine ⟨fun n w' => ∃ m : Nat, n = (m : Int) ∧ m ≤ 258 ∧ k + m ≤ s.size ∧ (∀ j, j < m → s.data.toList[at_ + j]? = s.data.toList[k + j]?) ∧ alike s.data.toList at_ k 258 0 = alike s.data.toList at_ k (258 - m) m ∧ DSt w w' b lo hi lb db r sl (lowB 3 3 ++ L) ents, fun n _ => 258 - n.toNat, ⟨0, rfl, by omega, by omega, fun j hj => by omega, rfl, hD⟩, ?_⟩
      rintro n w20 ⟨m, rfl, hm, hkm, hj, hal, hD20⟩
      have e5 : IntKind.i64.wrap ((k : Int) + (m : Int)) = ((k + m : Nat) : Int) := by rw [wrap_i64 (by omega) (by omega)]; omega
      have e6 : IntKind.i64.wrap ((at_ : Int) + (m : Int)) = ((at_ + m : Nat) : Int) := by rw [wrap_i64 (by omega) (by omega)]; omega
      have e7 : IntKind.i64.wrap ((m : Int) + 1) = ((m + 1 : Nat) : Int) := by rw [wrap_i64 (by omega) (by omega)]; omega
      rw [e5, e6, e7]
      have found : alike s.data.toList at_ k 258 0 = m → ∃ m' q : Nat, (m : Int) = (m' : Int) ∧ ((k - at_ : Nat) : Int) = (q : Int) ∧ dfind s k ents = (m', q, mupd ents key (.int .i64 (k : Int))) ∧ (m' < 3 ∨ (m' ≤ 258 ∧ 1 ≤ q ∧ q ≤ k ∧ q ≤ 32768 ∧ k + m' ≤ s.size ∧ ∀ j, j < m' → s.data.toList[k - q + j]? = s.data.toList[k + j]?)) := fun hm0 =>
        ⟨m, k - at_, rfl, rfl, by rw [hdf, hm0], .inr ⟨hm, by omega, by omega, by omega, hkm, fun j h => by rw [show k - (k - at_) = at_ by omega]; exact hj j h⟩⟩
      refine ⟨fun hlt => ?_, fun hge w25 d25 => ⟨hbnd, hlast _ _ w25 (hD20.drew d25) (found ?_)⟩⟩
      rotate_left 1
      · have hge := of_decide_eq_false hge
        rw [hal, show 258 - m = 0 by omega]; rfl
      have hlt := of_decide_eq_true hlt
      obtain ⟨f, hf⟩ : ∃ f, 258 - m = f + 1 := ⟨258 - m - 1, by omega⟩
      rw [hf] at hal
      have hsa : alike s.data.toList at_ k (f + 1) m = if k + m < s.data.toList.length ∧ s.data.toList[at_ + m]? = s.data.toList[k + m]? then alike s.data.toList at_ k f (m + 1) else m := rfl
      rw [hsa] at hal
      refine ⟨fun hin => ?_, fun hout w23 d23 => ⟨hbnd, hlast _ _ w23 (hD20.drew d23) (found ?_)⟩⟩
      rotate_left 1
      · have hout := of_decide_eq_false hout
        rw [hal, if_neg (fun hh => by omega)]
      have hin := of_decide_eq_true hin
      refine ⟨⟨by omega, by omega⟩, ⟨by omega, by omega⟩, fun w21 d21 => ?_⟩
      rw [byteAt_nat, byteAt_nat]
      have g1 := get_byt (s := s) (i := at_ + m) (by omega)
      have g2 := get_byt (s := s) (i := k + m) (by omega)
      refine ⟨fun heq => ?_, fun hne => ⟨hbnd, hlast _ _ w21 (hD20.drew d21) (found ?_)⟩⟩
      · have heq : byt s (at_ + m) = byt s (k + m) := by have := eq_of_beq heq; omega
        have hsame : s.data.toList[at_ + m]? = s.data.toList[k + m]? := by rw [g1, g2, heq]
        rw [if_pos ⟨by omega, hsame⟩] at hal
        refine ⟨⟨m + 1, rfl, by omega, by omega, fun j h => ?_, by rw [hal, show 258 - (m + 1) = f by omega], hD20.drew d21⟩, by dsimp only; omega⟩
        by_cases hjm : j = m
        · subst hjm; exact hsame
        · exact hj j (by omega)
      · rw [hal, if_neg]
        rintro ⟨_, hh⟩
        rw [g1, g2, Option.some.injEq, ← UInt8.toNat_inj, toNat_byt, toNat_byt] at hh
        rw [hh] at hne
        simp at hne
  · have hgt := of_decide_eq_false hgt
    rw [e3] at hgt
    exact ⟨0, 0, ents, rfl, rfl, hD, hB.more (by omega), by unfold dfind; rw [if_neg (by omega)], .inl (by decide)⟩
  -- what is written
  rintro n back w31 ⟨m, q, ents', rfl, rfl, hD31, hB31, hdf, hmq⟩
  have hstep : diter s (it + 1) = dstep s (k, L, ents) := by rw [diter, hit]
  unfold dstep at hstep
  dsimp only at hstep
  rw [hdf] at hstep
  dsimp only at hstep
  refine ⟨fun hlt3 => ?_, fun hge3 => ?_⟩
  · have hlt3 := of_decide_eq_true hlt3
    have hb := byt_lt s k
    rw [byteAt_nat, wrap_i64 (by omega) (by omega)]
    have e1 : IntKind.i64.wrap ((k : Int) + 1) = ((k + 1 : Nat) : Int) := by rw [wrap_i64 (by omega) (by omega)]; omega
    rw [e1]
    refine ⟨⟨by omega, by omega⟩, ?_⟩
    have hfx := DefM.fixN_le (byt s k)
    refine code_put hD31.wr hD31.lit (s := byt s k) (DefM.lit_get (by omega)) (by omega) (by omega) fun w37 sl37 hw37 hf37 hs37 => ?_
    have hD37 := hD31.put hw37 hf37 hs37
    have hE37 := DefM.enc_lit hE (get_byt hks)
    rw [toNat_byt] at hE37
    rw [List.append_assoc] at hD37
    exact ⟨⟨k + 1, sl37, _, ents', rfl, by omega, hD37, hE37, by rw [List.length_append, DefM.lit_len (by omega)]; omega, hB31, it + 1, by rw [hstep, if_pos (by omega)]⟩, by dsimp only; omega⟩
  · have hge3 := of_decide_eq_false hge3
    obtain ⟨hm258, hq1, hqk, hq32, hkm, hj⟩ := hmq.resolve_left (by omega)
    refine (symlen_spec (n := m) (by omega) hm258 w31).mono ?_
    rintro e w39 ⟨a, more, rfl, ha, ham, hmore, hsa, hw⟩
    replace hw := hw.symm
    subst hw
    have e1 : IntKind.i64.wrap (257 + (a : Int)) = ((257 + a : Nat) : Int) := by rw [wrap_i64 (by omega) (by omega)]; omega
    have e2 : IntKind.i64.wrap ((k : Int) + (m : Int)) = ((k + m : Nat) : Int) := by rw [wrap_i64 (by omega) (by omega)]; omega
    obtain ⟨hl1, hl2⟩ := lenBase_le a ha
    have hp5 : 2 ^ (lenBase a).2 ≤ 2 ^ 5 := Nat.pow_le_pow_right (by decide) hl2
    refine ⟨_, _, _, rfl, ?_⟩
    rw [e1, e2]
    have hfx := DefM.fixN_le (257 + a)
    refine code_put hD31.wr hD31.lit (s := 257 + a) (DefM.lit_get (by omega)) (by omega) (by omega) fun w48 sl48 hw48 hf48 hs48 => ?_
    have hD48 := hD31.put hw48 hf48 hs48
    have hl48 : (lowB 3 3 ++ L ++ cbits fixedLit (257 + a)).length = 3 + L.length + fixN (257 + a) := by rw [List.length_append, hLl, DefM.lit_len (by omega)]
    refine (wbits_spec hD48.wr (x := more) (n := (lenBase a).2) (by omega) (by omega) (by omega)).mono ?_
    rintro e w50 ⟨rfl, sl50, hw50, hf50, hs50⟩
    have hD50 := hD48.put hw50 hf50 hs50
    refine ⟨rfl, (symdist_spec (n := q) hq1 hq32 w50).mono ?_⟩
    rintro e w52 ⟨d, far', rfl, hd, hdd, hfar, hsd, hw⟩
    replace hw := hw.symm
    subst hw
    obtain ⟨hd1, hd2, hd3⟩ := distBase_le d hd
    have hp13 : 2 ^ (distBase d).2 ≤ 2 ^ 13 := Nat.pow_le_pow_right (by decide) hd3
    have hl50 : (lowB 3 3 ++ L ++ cbits fixedLit (257 + a) ++ lowB (lenBase a).2 more).length = 3 + L.length + fixN (257 + a) + (lenBase a).2 := by rw [List.length_append, hl48, lowB_length]
    refine ⟨_, _, _, rfl, ?_⟩
    refine code_put hD50.wr hD50.dist (s := d) (DefM.dist_get (by omega)) (by decide) (by omega) fun w61 sl61 hw61 hf61 hs61 => ?_
    have hD61 := hD50.put hw61 hf61 hs61
    have hl61 : (lowB 3 3 ++ L ++ cbits fixedLit (257 + a) ++ lowB (lenBase a).2 more ++ cbits fixedDist d).length = 3 + L.length + fixN (257 + a) + (lenBase a).2 + 5 := by rw [List.length_append, hl50, DefM.dist_len (by omega)]
    refine (wbits_spec hD61.wr (x := far') (n := (distBase d).2) (by omega) (by omega) (by omega)).mono ?_
    rintro e w63 ⟨rfl, sl63, hw63, hf63, hs63⟩
    have hD63 := hD61.put hw63 hf63 hs63
    have hE63 := DefM.enc_rep hE (a := a) (more := more) (d := d) (far := far') ha hd hmore hfar (by omega) (by rw [ham, hsl]; omega) (by rw [ham, hdd]; exact hj)
    rw [ham] at hE63
    rw [show lowB 3 3 ++ L ++ cbits fixedLit (257 + a) ++ lowB (lenBase a).2 more ++ cbits fixedDist d ++ lowB (distBase d).2 far' = lowB 3 3 ++ (L ++ DefM.repB a more d far') by unfold DefM.repB; simp only [List.append_assoc]] at hD63
    have hrl := DefM.repB_length (more := more) (far := far') ha hd
    exact ⟨rfl, ⟨k + m, sl63, _, ents', rfl, by omega, hD63, hE63, by rw [List.length_append, hrl]; omega, hB31.more (by omega), it + 1, by rw [hstep, if_neg (by omega), symF_eq len_mono hsa, symF_eq dist_mono hsd, show m - (lenBase a).1 = more by omega, show q - (distBase d).1 = far' by omega]⟩, by dsimp only; omega⟩
end Go.Proofs.YtfoeooddnmppnaaDoor

/- A stream is inflated wherever it stands. No condition. -/
set_option linter.unusedVariables false
namespace DefM
open BitsM HuffM InfM SumM Go.Proofs.YtfoeooddnmppnaaDoor
/-- A stream is inflated wherever it stands. -/
theorem stream_inflate {t s : List UInt8} (h : Stream t s) (front back : List UInt8) {most : Nat} (hm : most ≤ 65536) : InfM.inflate (front ++ (t ++ back)) (front.length : Int) (most : Int) = if s.length ≤ most then (s, t.length, 0) else ([], 0, 2) := by
  obtain ⟨p, hp, hst⟩ := h
  unfold InfM.inflate
  rw [if_neg (by rw [List.length_append]; omega), Int.toNat_natCast, Int.toNat_natCast, List.drop_left]
  unfold InfM.inf
  have := hst [] [] most back ((sbits (t ++ back)).length + 1) rfl (Nat.zero_le _) (by rw [sbits_length, List.length_append]; omega)
  simp only [List.nil_append, List.length_nil, Nat.zero_add] at this
  rw [this]
  by_cases hl : s.length ≤ most
  · rw [if_pos hl, if_pos hl]
    dsimp only
    rw [hp]
  · rw [if_neg hl, if_neg hl]
end DefM

/- Formulas of 1 Go functions of this seat (written by a program of the author's, vcgen.py), and that each is enough for the call. No condition. -/
set_option linter.unusedVariables false
namespace Go.Proofs.YtfoeooddnmppnaaDoor
open Go Vc Go.Proofs
set_option maxRecDepth 100000
/-- cartularylaw23.ZipPacked -/
def vc_cartularylaw23_ZipPacked (x0a : Option Addr) (x0n : Nat) (x0c : Nat) (x1a : Option Addr) (x1n : Nat) (x1c : Nat) (w : World) (R : Value → World → Prop) : Prop :=
  Calls Tryd.prog (12 : Nat) (Array.mk [Value.slice x0a x0n x0c, Value.int IntKind.i64 10]) (w) (fun e1 w2 =>
    ∃ l3 : Sl, (e1 = Ending.returned (Value.slice l3.1 l3.2 l3.3) ∧
     Calls Tryd.prog (16 : Nat) (Array.mk [Value.slice l3.1 l3.2 l3.3]) (w2) (fun e4 w5 =>
       ∃ n6 : Int, (e4 = Ending.returned (Value.int IntKind.i64 n6) ∧
        ((((n6 != 0) = true →
           Calls Tryd.prog (15 : Nat) (Array.mk []) (w5) (fun e7 w8 =>
             ∃ b9 : Bool, (e7 = Ending.returned (Value.bool b9) ∧
              R (Value.bool b9) w8)))) ∧
         ((n6 != 0) = false →
           ∀ w10 : World,
           (w10 = World.alloc w5 (Obj.cells (Array.mk []) 9) →
             ∀ w11 : World,
             (w11 = World.alloc w10 (Obj.cells (Array.mk []) 3) →
               ∃ I12 : Sl → Sl → Int → World → Prop, ∃ I13 : Sl → Sl → Int → World → Nat, (I12 (Sl.mk (some (Addr.mk (Array.size (World.heap w5)) 0 none)) 0 0) (Sl.mk (some (Addr.mk (Array.size (World.heap w10)) 0 none)) 0 0) 0 w11 ∧
                ∀ l14 : Sl,
                ∀ l15 : Sl,
                ∀ n16 : Int,
                ∀ w17 : World,
                (I12 l14 l15 n16 w17 →
                  (((decide (n16 < (↑l3.2 : Int)) = true →
                     ((0 ≤ n16 ∧
                       n16 < (↑l3.2 : Int)) ∧
                      ∃ a18 : Addr, (l3.1 = some a18 ∧
                       ∃ s19 : ByteArray, ∃ s20 : ByteArray, (Sem.run Tryd.prog (loadVar 37 (Addr.add a18 (Int.toNat n16 * 2))) w17 = Result.ok (Value.agg (Array.mk [Value.string s19, Value.string s20])) w17 ∧
                        ∀ w21 : World,
                        (w21 = World.alloc w17 (Obj.cells (Array.mk [Value.string (ByteArray.mk (Array.mk [])), Value.string (ByteArray.mk (Array.mk []))]) 37) →
                          ∃ w22 : World, (Sem.run Tryd.prog (storeVar 37 (Addr.mk (Array.size (World.heap w17)) 0 none) (Value.agg (Array.mk [Value.string s19, Value.string s20]))) w21 = Result.ok PUnit.unit w22 ∧
                           ∃ I23 : Bool → World → Prop, ((((decide (n16 < (↑x1n : Int)) = true →
                               ((0 ≤ n16 ∧
                                 n16 < (↑x1n : Int)) ∧
                                ∃ a24 : Addr, (x1a = some a24 ∧
                                 ∃ b25 : Bool, (World.cell? w22 (Addr.add a24 (Int.toNat n16 * 1)) = some (Value.bool b25) ∧
                                  I23 b25 w22))))) ∧
                             (decide (n16 < (↑x1n : Int)) = false →
                               I23 false w22)) ∧
                            ∀ b26 : Bool,
                            ∀ w27 : World,
                            (I23 b26 w27 →
                              (((b26 = true →
                                 ∃ s28 : ByteArray, (World.cell? w27 (Addr.mk (Array.size (World.heap w17)) 1 none) = some (Value.string s28) ∧
                                  Calls Tryd.prog (28 : Nat) (Array.mk [Value.string s28]) (w27) (fun e29 w30 =>
                                    ∃ s31 : ByteArray, (e29 = Ending.returned (Value.string s31) ∧
                                     ∀ w32 : World,
                                     (w32 = World.alloc w30 (Obj.cells (Array.mk [Value.string s31]) 9) →
                                       ∃ w33 : World, ∃ l34 : Sl, (Sem.run Tryd.prog (Builtin.append_ (Array.mk [55, 55]) 55 (Array.mk [Value.slice l14.1 l14.2 l14.3, Value.slice (some (Addr.mk (Array.size (World.heap w30)) 0 none)) 1 1])) w32 = Result.ok (Value.slice l34.1 l34.2 l34.3) w33 ∧
                                        ∀ w35 : World,
                                        (w35 = World.alloc w33 (Obj.cells (Array.mk [Value.int IntKind.i64 8]) 3) →
                                          ∃ w36 : World, ∃ l37 : Sl, (Sem.run Tryd.prog (Builtin.append_ (Array.mk [56, 56]) 56 (Array.mk [Value.slice l15.1 l15.2 l15.3, Value.slice (some (Addr.mk (Array.size (World.heap w33)) 0 none)) 1 1])) w35 = Result.ok (Value.slice l37.1 l37.2 l37.3) w36 ∧
                                           (I12 (Sl.mk l34.1 l34.2 l34.3) (Sl.mk l37.1 l37.2 l37.3) (IntKind.wrap IntKind.i64 (n16 + 1)) w36 ∧
                                            I13 (Sl.mk l34.1 l34.2 l34.3) (Sl.mk l37.1 l37.2 l37.3) (IntKind.wrap IntKind.i64 (n16 + 1)) w36 < I13 l14 l15 n16 w17)))))))))) ∧
                               (b26 = false →
                                 ∃ s38 : ByteArray, (World.cell? w27 (Addr.mk (Array.size (World.heap w17)) 1 none) = some (Value.string s38) ∧
                                  ∀ w39 : World,
                                  (w39 = World.alloc w27 (Obj.cells (Array.mk [Value.string s38]) 9) →
                                    ∃ w40 : World, ∃ l41 : Sl, (Sem.run Tryd.prog (Builtin.append_ (Array.mk [55, 55]) 55 (Array.mk [Value.slice l14.1 l14.2 l14.3, Value.slice (some (Addr.mk (Array.size (World.heap w27)) 0 none)) 1 1])) w39 = Result.ok (Value.slice l41.1 l41.2 l41.3) w40 ∧
                                     ∀ w42 : World,
                                     (w42 = World.alloc w40 (Obj.cells (Array.mk [Value.int IntKind.i64 0]) 3) →
                                       ∃ w43 : World, ∃ l44 : Sl, (Sem.run Tryd.prog (Builtin.append_ (Array.mk [56, 56]) 56 (Array.mk [Value.slice l15.1 l15.2 l15.3, Value.slice (some (Addr.mk (Array.size (World.heap w40)) 0 none)) 1 1])) w42 = Result.ok (Value.slice l44.1 l44.2 l44.3) w43 ∧
                                        (I12 (Sl.mk l41.1 l41.2 l41.3) (Sl.mk l44.1 l44.2 l44.3) (IntKind.wrap IntKind.i64 (n16 + 1)) w43 ∧
                                         I13 (Sl.mk l41.1 l41.2 l41.3) (Sl.mk l44.1 l44.2 l44.3) (IntKind.wrap IntKind.i64 (n16 + 1)) w43 < I13 l14 l15 n16 w17))))))))))))))))) ∧
                   (decide (n16 < (↑l3.2 : Int)) = false →
                     Calls Tryd.prog (29 : Nat) (Array.mk [Value.slice l3.1 l3.2 l3.3, Value.slice l14.1 l14.2 l14.3, Value.slice l15.1 l15.2 l15.3]) (w17) (fun e45 w46 =>
                       ∃ s47 : ByteArray, (e45 = Ending.returned (Value.string s47) ∧
                        Calls Tryd.prog (18 : Nat) (Array.mk [Value.string s47]) (w46) (fun e48 w49 =>
                          ∃ l50 : Sl, ∃ n51 : Int, (e48 = Ending.returned (Value.tuple (Array.mk [Value.slice l50.1 l50.2 l50.3, Value.int IntKind.i64 n51])) ∧
                           Calls Tryd.prog (15 : Nat) (Array.mk []) (w49) (fun e52 w53 =>
                             ∃ b54 : Bool, (e52 = Ending.returned (Value.bool b54) ∧
                              (((b54 = true →
                                 ((((n51 == 0) = true →
                                    Calls Tryd.prog (17 : Nat) (Array.mk [Value.slice l50.1 l50.2 l50.3, Value.slice l3.1 l3.2 l3.3]) (w53) (fun e55 w56 =>
                                      ∃ b57 : Bool, (e55 = Ending.returned (Value.bool b57) ∧
                                       R (Value.bool b57) w56)))) ∧
                                  ((n51 == 0) = false →
                                    R (Value.bool false) w53)))) ∧
                               (b54 = false →
                                 R (Value.bool false) w53))))))))))))))))))))
theorem vc_cartularylaw23_ZipPacked_ok {x0a : Option Addr} {x0n : Nat} {x0c : Nat} {x1a : Option Addr} {x1n : Nat} {x1c : Nat} {w : World} {R : Value → World → Prop} {R' : Ending → World → Prop} (h : vc_cartularylaw23_ZipPacked x0a x0n x0c x1a x1n x1c w R) (hR : ∀ v w', R v w' → R' (.returned v) w') :
    Calls Tryd.prog 10 #[.slice x0a x0n x0c, .slice x1a x1n x1c] w R' :=
  calls_of_body (vs := [(.slice x0a x0n x0c, false), (.slice x1a x1n x1c, false)]) (ty := ty) (ann := ⟨[(9, [(36, .bool)])], [(6, [(6, .slice), (7, .slice), (22, .int .i64)])], [], []⟩) (c := Tryd.f10.body.getD .skip) (by kernel_rfl) Tryd.func10 (by kernel_rfl) (by kernel_rfl) (Eq.mp (by kernel_rfl) h) hR
end Go.Proofs.YtfoeooddnmppnaaDoor

/- ZipPacked: whichever files of an archive are deflated, the same files are read. Conditions: what comes in is within the reach. -/
set_option linter.unusedVariables false
namespace Go.Proofs.YtfoeooddnmppnaaDoor
open Go Vc SumM Go.Proofs

noncomputable def defZ (f : FileE) : EntZ := ⟨8, f.path, f.data, ⟨(deflT f.data).toArray⟩⟩
theorem def_unp {f : FileE} (h : f.data.size ≤ 400) (hst : DefM.Stream (deflT f.data) f.data.data.toList) (hlen : (deflT f.data).length ≤ (storedS f.data.data.toList).length) : UnpZ (defZ f) ∧ (defZ f).packed.size ≤ 805 := by
  have hl := storedS_len f.data.data.toList.length f.data.data.toList rfl
  rw [bs_len] at hl
  have hps : (defZ f).packed.size = (deflT f.data).length := bs_mksize _
  refine ⟨⟨by show f.data.size ≤ _; omega, by rw [hps]; omega, .inr ⟨rfl, by show f.data.size ≤ _; omega, fun w => ?_⟩⟩, by rw [hps]; omega⟩
  refine (infl_spec (defZ f).packed (by rw [hps]; omega) 0 ((f.data.size : Nat) : Int) w).mono ?_
  rintro e w' ⟨rfl, _, hf⟩
  have := DefM.stream_inflate hst [] [] (most := f.data.size) (by omega)
  rw [if_pos (by rw [bs_len]; exact Nat.le_refl _), List.append_nil, List.nil_append] at this
  have h0 : ((List.length ([] : List UInt8) : Nat) : Int) = 0 := rfl
  rw [h0] at this
  have hpd : (defZ f).packed.data.toList = deflT f.data := bs_mk _
  rw [hpd, this, hps]
  refine ⟨?_, hf⟩
  unfold ans3
  rw [show (⟨f.data.data.toList.toArray⟩ : ByteArray) = f.data from bs_self _]
  rfl
set_option maxHeartbeats 1600000 in
theorem zipPacked_walk {a b : Option Addr} {n c nb cb : Nat} {W : World} {xs : List FileE} (hr : ReadsK encF 2 W a xs) (hn : xs.length = n) (hc : n ≤ c) (hb : ∀ x ∈ xs, x.path.size ≤ reachBytes ∧ x.data.size ≤ reachBytes) (hw : IsRows 1 (fun vs => ∃ x, vs = [.bool x]) W b nb) :
    Calls Tryd.prog F_cartularylaw23_ZipPacked #[.slice a n c, .slice b nb cb] W fun e w' => e = .returned (.bool true) ∧ RowKit.Below W.heap.size W w' := by
  refine vc_cartularylaw23_ZipPacked_ok (R := fun u w' => u = .bool true ∧ Fr (fun _ => False) W w') ?_ (fun u w' h => ⟨by rw [h.1], (h.2.mono fun _ _ h => h.elim : Fr (fun k => W.heap.size ≤ k) W w').below (Nat.le_refl _)⟩)
  have hrb : reachBytes ≤ 140737488355328 := by decide
  obtain ⟨hl40, hsz⟩ := shortF_szZ (m := 10) hb
  refine (short09_spec hr hn hc 10 (by decide)).mono ?_
  rintro e w2 ⟨l3, rfl, o2, f2⟩
  generalize hzs : shortF xs 10 = zs at *
  have hzn := o2.1
  have htot : totalF zs ≤ 4000 := Nat.le_trans (totalF_small (B := 400) zs fun y hy => (hsz y hy).2) (by omega)
  have hp : ∀ y ∈ zs, y.path.size ≤ 140737488355328 := fun y hy => Nat.le_trans (hsz y hy).1 hrb
  have hrd : ∀ {w' : World}, Fr (fun _ => False) w2 w' → ReadsK encF 2 w' l3.a zs := fun h => (o2.keep h (by simp)).reads elF.len
  refine ⟨l3, rfl, (zcheck_spec (hrd (.refl _ _)) hzn (by omega) hp (by omega)).mono ?_⟩
  rintro e w5 ⟨rfl, f5⟩
  refine ⟨_, rfl, fun h => ?_, fun h w10 h10 w11 h11 => ?_⟩
  · refine (awake23_spec w5).mono ?_
    rintro e w8 ⟨rfl, f8⟩
    exact ⟨true, rfl, rfl, (f2.trans' f5).trans' f8⟩
  have h0 : zchk zs = 0 := by simpa using h
  have hcl := (zchk_ok h0).2.2
  have hcp : ∀ y ∈ zs, y.path.size ≤ 200 := fun y hy => by
    have := hcl y hy
    unfold cleanB at this
    simp only [Bool.and_eq_true, decide_eq_true_eq] at this
    omega
  have g10 : Fr (fun _ => False) w5 w10 := by rw [h10]; exact .alloc _ _ _
  have g11 : Fr (fun _ => False) w10 w11 := by rw [h11]; exact .alloc _ _ _
  have s10 : w10.heap.size = w5.heap.size + 1 := by rw [h10]; simp
  have p11 : Vc.Own w11 w5.heap.size T_string ⟨some ⟨w5.heap.size, 0, none⟩, 0, 0⟩ [] := (by rw [h10]; exact own_empty w5 T_string : Vc.Own w10 w5.heap.size T_string ⟨some ⟨w5.heap.size, 0, none⟩, 0, 0⟩ []).keep g11 (by simp)
  have m11 : Vc.Own w11 w5.heap.size T_int ⟨some ⟨w10.heap.size, 0, none⟩, 0, 0⟩ [] := (by rw [h11]; exact own_empty w10 T_int : Vc.Own w11 w10.heap.size T_int ⟨some ⟨w10.heap.size, 0, none⟩, 0, 0⟩ []).mono (by omega)
  refine ⟨fun lp lm i w' => ∃ (k : Nat) (es : List EntZ), i = k ∧ k ≤ zs.length ∧ es.map filZ = zs.take k ∧ (∀ x ∈ es, UnpZ x ∧ x.packed.size ≤ 805) ∧ Vc.Own w' w5.heap.size T_string lp (pakV es) ∧ Vc.Own w' w5.heap.size T_int lm (metV es) ∧ (∀ p q, lp.a = some p → lm.a = some q → p.block ≠ q.block) ∧ Fr (fun _ => False) w5 w', fun _ _ i _ => zs.length - i.toNat,
    ⟨0, [], rfl, Nat.zero_le _, rfl, fun x hx => by simp at hx, p11, m11, fun p q hp hq => by cases hp; cases hq; simp only; omega, g10.trans' g11⟩, ?_⟩
  clear p11 m11 g10 g11 h10 h11
  rintro lp lm i w17 ⟨k, es, rfl, hk, hes, hgood, op, om, hdis, hf⟩
  have hw17 := hf.size
  have hesl : es.length = k := by
    have := congrArg List.length hes
    rw [List.length_map, List.length_take] at this
    omega
  have lpk : (pakV es).length = k := by unfold pakV; rw [List.length_map, hesl]
  have lmk : (metV es).length = k := by unfold metV; rw [List.length_map, hesl]
  refine ⟨fun hlt => ?_, fun hge => ?_⟩
  · have hlt := of_decide_eq_true hlt
    have hkl : k < zs.length := by omega
    have hyk : zs[k]? = some zs[k] := List.getElem?_eq_getElem hkl
    have htk : zs.take (k + 1) = zs.take k ++ [zs[k]] := (List.take_append_getElem hkl).symm
    generalize zs[k] = y at hyk htk
    have hym := List.mem_of_getElem? hyk
    have hyd := (hsz y hym).2
    obtain ⟨ad, had, hld⟩ := (hrd (f5.trans' hf)).load elF hyk
    rw [Int.toNat_natCast]
    refine ⟨⟨by omega, by omega⟩, ad, had, y.path, y.data, hld, fun w21 h21 => ?_⟩
    subst h21
    obtain ⟨w22, hw22⟩ : ∃ w22, w17.alloc (.cells (encF y).toArray T_api_File) = w22 := ⟨_, rfl⟩
    have hfb : Fr (fun _ => False) w17 w22 := by rw [← hw22]; exact .alloc _ _ _
    have s22 := hfb.size
    have hy1 : w22.cell? ⟨w17.heap.size, 1, none⟩ = some (.string y.data) := by rw [← hw22]; exact boxF_cell w17 y (.refl (fun _ => False) _) (by simp) (j := 1) rfl
    have e1 : IntKind.i64.wrap ((k : Int) + 1) = ((k + 1 : Nat) : Int) := by rw [wrap_i64 (by omega) (by omega)]; omega
    rw [e1]
    have hgo : ∀ (x : EntZ), filZ x = y → UnpZ x → x.packed.size ≤ 805 → ∀ w30, Fr (fun _ => False) w22 w30 → ∀ w32, w32 = w30.alloc (.cells #[.string x.packed] T_string) → ∃ (w33 : World) (l34 : Sl), (Builtin.append_ #[T_S_string, T_S_string] T_S_string #[.slice lp.a lp.len lp.cap, .slice (some ⟨w30.heap.size, 0, none⟩) 1 1]).run Tryd.prog w32 = .ok (.slice l34.a l34.len l34.cap) w33 ∧ ∀ w35, w35 = w33.alloc (.cells #[.int .i64 (x.method : Int)] T_int) →
        ∃ (w36 : World) (l37 : Sl), (Builtin.append_ #[T_S_int, T_S_int] T_S_int #[.slice lm.a lm.len lm.cap, .slice (some ⟨w33.heap.size, 0, none⟩) 1 1]).run Tryd.prog w35 = .ok (.slice l37.a l37.len l37.cap) w36 ∧
        (∃ (k' : Nat) (es' : List EntZ), ((k + 1 : Nat) : Int) = k' ∧ k' ≤ zs.length ∧ es'.map filZ = zs.take k' ∧ (∀ x ∈ es', UnpZ x ∧ x.packed.size ≤ 805) ∧ Vc.Own w36 w5.heap.size T_string l34 (pakV es') ∧ Vc.Own w36 w5.heap.size T_int l37 (metV es') ∧ (∀ p q, l34.a = some p → l37.a = some q → p.block ≠ q.block) ∧ Fr (fun _ => False) w5 w36) := by
      intro x hxy hux hxp w30 f30 w32 h32
      have s30 := f30.size
      obtain ⟨w33, l34, hr33, op33, f33, s33⟩ := append_one' elStrZ ((op.keep hfb (by simp)).keep f30 (by simp)) (v := .string x.packed) rfl (by unfold maxLen; omega) (by omega) (by omega) h32
      refine ⟨w33, l34, hr33, fun w35 h35 => ?_⟩
      have hs33 := f33.size
      have om33 := ((om.keep hfb (by simp)).keep f30 (by simp)).keep f33 fun q hq ⟨p, hp, e⟩ => hdis p q hp hq e.symm
      obtain ⟨w36, l37, hr36, om36, f36, s36⟩ := append_one' elIntZ om33 (v := .int .i64 (x.method : Int)) rfl (by unfold maxLen; omega) (by omega) (by omega) h35
      have hd34 : ∀ p q, l34.a = some p → lm.a = some q → p.block ≠ q.block := fun p q hp hq => by
        rcases s33 p hp with ⟨z, hz, e⟩ | h
        · rw [← e]; exact hdis z q hz hq
        · have := (om.blk hq).2; omega
      refine ⟨w36, l37, hr36, k + 1, es ++ [x], rfl, by omega, by rw [List.map_append, hes, htk, List.map_cons, hxy]; rfl, fun z hz => ?_, ?_, ?_, fun p q hp hq => ?_, (((hf.trans' hfb).trans' f30).trans f33 fun q hq ⟨z, hz, e⟩ => by have := (op.blk hz).1; omega).trans f36 fun q hq ⟨z, hz, e⟩ => by have := (om.blk hz).1; omega⟩
      · rcases List.mem_append.1 hz with hz | hz
        · exact hgood z hz
        · rw [List.mem_singleton] at hz; subst hz; exact ⟨hux, hxp⟩
      · unfold pakV
        rw [List.map_append]
        exact op33.keep f36 fun q hq ⟨z, hz, e⟩ => hd34 q z hq hz e
      · unfold metV
        rw [List.map_append]
        exact om36
      · rcases s36 q hq with ⟨z, hz, e⟩ | h
        · rw [← e]; exact hd34 p z hp hz
        · have := (op33.blk hp).2; omega
    have hmea : zs.length - (((k + 1 : Nat) : Int)).toNat < zs.length - ((k : Int)).toNat := by omega
    refine ⟨w22, by rw [← hw22]; exact boxF_run w17 y, fun bb w' => w' = w22, ⟨fun hlb => ?_, fun _ => rfl⟩, ?_⟩
    · have hlb := of_decide_eq_true hlb
      obtain ⟨x, vs, hxa, _, ⟨v, rfl⟩, hcv⟩ := hw.at (w1 := w22) (i := k) (by omega) ((((f2.trans' f5).trans' hf).trans' hfb).mono fun _ _ h => h.elim)
      refine ⟨⟨by omega, by omega⟩, x, hxa, v, ?_, rfl⟩
      have := hcv 0 _ rfl
      have hz : ∀ q : Addr, q.add 0 = q := fun q => by cases q; rfl
      rwa [hz] at this
    rintro bb w27 rfl
    refine ⟨fun _ => ⟨y.data, hy1, (deflate_spec y.data (by omega) w27).mono ?_⟩, fun _ => ⟨y.data, hy1, fun w39 h39 => ?_⟩⟩
    · rintro e w30 ⟨rfl, hst, hlen, f30⟩
      obtain ⟨hu, hps⟩ := def_unp hyd hst hlen
      refine ⟨_, rfl, fun w32 h32 => ?_⟩
      obtain ⟨w33, l34, hr33, hk2⟩ := hgo (defZ y) rfl hu hps w30 f30 w32 h32
      refine ⟨w33, l34, hr33, fun w35 h35 => ?_⟩
      obtain ⟨w36, l37, hr36, hinv⟩ := hk2 w35 h35
      exact ⟨w36, l37, hr36, hinv, hmea⟩
    · obtain ⟨w33, l34, hr33, hk2⟩ := hgo (stoZ y) rfl (sto_unp (by omega)) (by show y.data.size ≤ 805; omega) w27 (.refl _ _) w39 h39
      refine ⟨w33, l34, hr33, fun w35 h35 => ?_⟩
      obtain ⟨w36, l37, hr36, hinv⟩ := hk2 w35 h35
      exact ⟨w36, l37, hr36, hinv, hmea⟩
  · have hge := of_decide_eq_false hge
    have hk' : k = zs.length := by omega
    rw [hk', List.take_length] at hes
    have hel10 : es.length ≤ 10 := by omega
    have hxp : ∀ x ∈ es, x.path.size ≤ 200 ∧ x.data.size ≤ 400 := fun x hx => by
      have hm : filZ x ∈ zs := by rw [← hes]; exact List.mem_map_of_mem hx
      exact ⟨hcp _ hm, (hsz _ hm).2⟩
    have hout : ∀ ys : List EntZ, (∀ x ∈ ys, x ∈ es) → (outZ ys).length ≤ ys.length * 1035 := fun ys => by
      induction ys with
      | nil => intro _; simp [outZ]
      | cons z r ih =>
        intro h
        have h1 := ih fun x hx => h x (List.mem_cons_of_mem _ hx)
        have h2 := h z List.mem_cons_self
        have h3 := (hxp z h2).1
        have h4 := (hgood z h2).2
        rw [outZ_cons, List.length_append, locZ_len, List.length_cons, Nat.succ_mul]; omega
    have hidx : ∀ (ys : List EntZ) (off : Nat), (∀ x ∈ ys, x ∈ es) → (idxZ off ys).length ≤ ys.length * 246 := fun ys => by
      induction ys with
      | nil => intro off _; simp [idxZ]
      | cons z r ih =>
        intro off h
        have h1 := ih (off + (locZ z).length) fun x hx => h x (List.mem_cons_of_mem _ hx)
        have h2 := h z List.mem_cons_self
        have h3 := (hxp z h2).1
        rw [idxZ, List.length_append, cenZ_len, List.length_cons, Nat.succ_mul]; omega
    have ho1 := hout es fun _ h => h
    have hi1 := hidx es 0 fun _ h => h
    have hal : (arcZ es).length = (outZ es).length + ((idxZ 0 es).length + 22) := by
      unfold arcZ
      rw [List.length_append, List.length_append, endL_len]
    refine (rarchive_spec (es := es) (ca := l3.cap) (cb := lp.cap) (cc := lm.cap) (by rw [hes]; exact hrd (f5.trans' hf)) op.reads om.reads (by omega) (by rw [op.len, lpk]; omega) (by rw [om.len, lmk]; omega) (fun x hx => ?_) (by omega) (by omega) (by omega)).mono ?_
    · obtain ⟨⟨u1, u2, u3⟩, u4⟩ := hgood x hx
      obtain ⟨v1, v2⟩ := hxp x hx
      refine ⟨?_, by omega, by omega, by omega⟩
      rcases u3 with ⟨hm, _⟩ | ⟨hm, _⟩ <;> omega
    rintro e w46 ⟨rfl, f46⟩
    refine ⟨_, rfl, (zread_spec (es := es) ⟨by rw [bs_mk], by rw [bs_mksize]; omega, by rw [hes]; exact h0, fun x hx => (hgood x hx).1⟩ w46).mono ?_⟩
    rintro e w49 ⟨l50, rfl, o49, f49⟩
    rw [hes] at o49
    refine ⟨l50, 0, rfl, (awake23_spec w49).mono ?_⟩
    rintro e w53 ⟨rfl, f53⟩
    have g53 := (((f5.trans' hf).trans' f46).trans' f49).trans' f53
    refine ⟨true, rfl, fun _ => ⟨fun _ => (rsame_spec ((o49.keep f53 (by simp)).reads elF.len) (hrd g53) o49.1 hzn (by rw [← o49.1]; omega)).mono ?_, fun h => absurd h (by decide)⟩, fun h => (by cases h)⟩
    rintro e w56 ⟨⟨r, rfl, hr56⟩, d56⟩
    exact ⟨r, rfl, by rw [hr56.2 rfl], f2.trans' (g53.trans' (.drew _ d56))⟩
end Go.Proofs.YtfoeooddnmppnaaDoor

/- Slices of structs that came in, opened to cells. No condition: for all programs. -/
set_option linter.unusedVariables false
namespace Vc
open Go Go.ChangeShapes Go.WideShapes Go.Deep
section
variable {H : Type} {enc : TypeId × Value → H} {P : Program} {w : World} {base : Nat} {spare : Nat → Bool} {held : Bool}
/-- What the fields of an element say, its cells say. -/
def FieldsSay (enc : TypeId × Value → H) (P : Program) (w : World) (base : Nat) (spare : Nat → Bool) (held : Bool) (fs : Array Field) (Q : List Value → Prop) : Prop :=
  ∀ n (cs : List Value), cs.length = fs.size → (∀ (j : Nat) (f : Field) (v : Value), fs[j]? = some f → cs[j]? = some v → ∃ y, DataW.trod enc P w base spare held n f.type [v] = some y) → Q cs
theorem open_rows {t e : TypeId} {fs : Array Field} {fuel : Nat} {a : Option Addr} {len cap : Nat} {x : DataW H × List MemPlace} {Q : List Value → Prop} (ht : P.underlying t = some (.slice e)) (he : P.underlying e = some (.struct fs))
    (hone : oneCellFields P fs = true) (hC : P.cellsOf e = fs.size) (hQ : FieldsSay enc P w base spare held fs Q) (h : DataW.trod enc P w base spare held fuel t [.slice a len cap] = some x) : IsRows fs.size Q w a len := by
  intro i hi
  rcases open_slice ht h with ⟨h0, _⟩ | ⟨b, l, c, m, n, D, Pl, hcs, hb, hl, hm, hmm, hx, hi'⟩
  · simp only [List.cons.injEq, Value.slice.injEq] at h0; omega
  · simp only [List.cons.injEq, Value.slice.injEq, and_true] at hcs
    obtain ⟨rfl, rfl, rfl⟩ := hcs
    obtain ⟨cs, hc, htr⟩ := hi' i (by rw [hmm]; split <;> omega)
    obtain ⟨ys, n', _, _, hlen, hyl, hf⟩ := DataW.trod_struct he htr
    obtain ⟨_, hcl, hat⟩ := World.cells?_some hc
    rw [hC] at hcl hat
    refine ⟨b, cs, rfl, hcl, hQ n' cs hcl ?_, ?_⟩
    · intro j f v hj hv
      obtain ⟨ho, hk⟩ := hone_of hone j f hj
      have hjl : j < fs.size := (Array.getElem?_eq_some_iff.1 hj).1
      have h1 := hf j f hj
      have h2 : (cs.drop j).take 1 = [v] := by
        obtain ⟨hjl', hv'⟩ := List.getElem?_eq_some_iff.1 hv
        rw [List.drop_eq_getElem_cons hjl', hv']; rfl
      rw [ho, hk, h2, List.getElem?_eq_getElem (show j < ys.length by omega)] at h1
      exact ⟨_, h1⟩
    · intro j v hv
      have hjl := (List.getElem?_eq_some_iff.1 hv).1
      rw [← hv, ← hat j (by omega), add_add]
/-- As above, and what was read takes no more bytes than memory has. -/
def FieldsSayW (enc : TypeId × Value → H) (P : Program) (w : World) (base : Nat) (spare : Nat → Bool) (held : Bool) (fs : Array Field) (Q : List Value → Prop) : Prop :=
  ∀ n (cs : List Value), cs.length = fs.size → (∀ (j : Nat) (f : Field) (v : Value), fs[j]? = some f → cs[j]? = some v → ∃ y, DataW.trod enc P w base spare held n f.type [v] = some y ∧ (y.1.weights P f.type).all (· ≤ reachBytes) = true) → Q cs
theorem weightsAll_mem {e : TypeId} : ∀ {ds : List (DataW H)} {d : DataW H}, d ∈ ds → ∀ n ∈ d.weights P e, n ∈ DataW.weightsAll P e ds
  | d0 :: ds, d, h, n, hn => by
    simp only [DataW.weightsAll, List.mem_append]
    rcases List.mem_cons.1 h with rfl | h
    · exact .inl hn
    · exact .inr (weightsAll_mem h n hn)
theorem open_rowsW {t e : TypeId} {fs : Array Field} {fuel : Nat} {a : Option Addr} {len cap : Nat} {x : DataW H × List MemPlace} {Q : List Value → Prop} (ht : P.underlying t = some (.slice e)) (he : P.underlying e = some (.struct fs))
    (hone : oneCellFields P fs = true) (hC : P.cellsOf e = fs.size) (hsz : (x.1.weights P t).all (· ≤ reachBytes) = true) (hQ : FieldsSayW enc P w base spare held fs Q) (h : DataW.trod enc P w base spare held fuel t [.slice a len cap] = some x) : IsRows fs.size Q w a len ∧ len ≤ cap := by
  rcases open_slice ht h with ⟨h0, _⟩ | ⟨b, l, c, m, n, D, Pl, hcs, hb, hl, hm, hmm, hx, hi'⟩
  · simp only [List.cons.injEq, Value.slice.injEq, and_true] at h0
    exact ⟨fun i hi => by omega, by omega⟩
  · simp only [List.cons.injEq, Value.slice.injEq, and_true] at hcs
    obtain ⟨rfl, rfl, rfl⟩ := hcs
    refine ⟨fun i hi => ?_, hl⟩
    obtain ⟨cs, hc, htr⟩ := hi' i (by rw [hmm]; split <;> omega)
    have hwD : ((D i).weights P e).all (· ≤ reachBytes) = true := by
      rw [List.all_eq_true] at hsz ⊢
      intro q hq
      refine hsz q ?_
      rw [hx]
      simp only [DataW.weights, ht, List.mem_cons, List.mem_append]
      exact .inr (.inl (weightsAll_mem (List.mem_map.2 ⟨i, List.mem_range.2 hi, rfl⟩) q hq))
    obtain ⟨ys, n', _, hxe, hlen, hyl, hf⟩ := DataW.trod_struct he htr
    obtain ⟨_, hcl, hat⟩ := World.cells?_some hc
    rw [hC] at hcl hat
    refine ⟨b, cs, rfl, hcl, hQ n' cs hcl ?_, ?_⟩
    · intro j f v hj hv
      obtain ⟨ho, hk⟩ := hone_of hone j f hj
      have hjl : j < fs.size := (Array.getElem?_eq_some_iff.1 hj).1
      have h1 := hf j f hj
      have h2 : (cs.drop j).take 1 = [v] := by
        obtain ⟨hjl', hv'⟩ := List.getElem?_eq_some_iff.1 hv
        rw [List.drop_eq_getElem_cons hjl', hv']; rfl
      rw [ho, hk, h2, List.getElem?_eq_getElem (show j < ys.length by omega)] at h1
      refine ⟨_, h1, ?_⟩
      have hDe : D i = .agg (ys.map (·.1)) := by
        have := congrArg Prod.fst hxe
        simpa using this
      rw [hDe] at hwD
      simp only [DataW.weights, he] at hwD
      rw [List.all_eq_true] at hwD ⊢
      intro q hq
      refine hwD q (DataW.weights_mem_each (j := j) (t := f.type) (d := (ys[j]'(by omega)).1) ?_ ?_ q hq)
      · rw [List.getElem?_map, Array.getElem?_toList, hj]; rfl
      · rw [List.getElem?_map, List.getElem?_eq_getElem (show j < ys.length by omega)]; rfl
    · intro j v hv
      have hjl := (List.getElem?_eq_some_iff.1 hv).1
      rw [← hv, ← hat j (by omega), add_add]
/-- A slice of one-celled elements: what an element says, its cell says. -/
theorem open_cells {t e : TypeId} {fuel : Nat} {a : Option Addr} {len cap : Nat} {x : DataW H × List MemPlace} {Q : List Value → Prop} (ht : P.underlying t = some (.slice e)) (hC : P.cellsOf e = 1)
    (hQ : ∀ n v y, DataW.trod enc P w base spare held n e [v] = some y → Q [v]) (h : DataW.trod enc P w base spare held fuel t [.slice a len cap] = some x) : IsRows 1 Q w a len := by
  intro i hi
  rcases open_slice ht h with ⟨h0, _⟩ | ⟨b, l, c, m, n, D, Pl, hcs, hb, hl, hm, hmm, hx, hi'⟩
  · simp only [List.cons.injEq, Value.slice.injEq] at h0; omega
  · simp only [List.cons.injEq, Value.slice.injEq, and_true] at hcs
    obtain ⟨rfl, rfl, rfl⟩ := hcs
    obtain ⟨cs, hc, htr⟩ := hi' i (by rw [hmm]; split <;> omega)
    obtain ⟨_, hcl, hat⟩ := World.cells?_some hc
    rw [hC] at hcl hat
    obtain ⟨v, rfl⟩ : ∃ v, cs = [v] := List.length_eq_one_iff.1 hcl
    refine ⟨b, [v], rfl, rfl, hQ _ v _ htr, ?_⟩
    intro j u hu
    have hjl := (List.getElem?_eq_some_iff.1 hu).1
    rw [← hu, ← hat j hjl, add_add]
end
end Vc

/- The files that came in, as a list. No condition. -/
set_option linter.unusedVariables false
namespace Go.Proofs.YtfoeooddnmppnaaDoor
open Go Vc Go.Proofs Go.RowKit

theorem files_of {W : World} {a : Option Addr} : ∀ (n : Nat), IsRows 2 (fun vs => ∃ x0 x1, vs = [.string x0, .string x1] ∧ x0.size ≤ reachBytes ∧ x1.size ≤ reachBytes) W a n → ∃ xs : List FileE, xs.length = n ∧ ReadsK encF 2 W a xs ∧ (∀ x ∈ xs, x.path.size ≤ reachBytes ∧ x.data.size ≤ reachBytes)
  | 0, _ => ⟨[], rfl, .nil _ _, fun x hx => by simp at hx⟩
  | n + 1, h => by
    obtain ⟨xs, hE, hR, hB⟩ := files_of n fun i hi => h i (by omega)
    obtain ⟨ad, vs, had, hl, ⟨x0, x1, rfl, h1, h2⟩, hc⟩ := h n (by omega)
    refine ⟨xs ++ [⟨x0, x1⟩], by rw [List.length_append, hE]; rfl, fun i x hx => ?_, fun x hx => ?_⟩
    · by_cases hi : i < xs.length
      · rw [List.getElem?_append_left hi] at hx
        exact hR i x hx
      · rw [List.getElem?_append_right (by omega)] at hx
        have hi0 : i - xs.length = 0 := by
          by_cases h : i - xs.length = 0
          · exact h
          · rw [List.getElem?_eq_none (by simp; omega)] at hx; cases hx
        rw [hi0] at hx
        simp only [List.getElem?_cons_zero, Option.some.injEq] at hx
        subst hx
        refine ⟨ad, had, fun j v hv => ?_⟩
        have := hc j v hv
        rw [add_add, show i = n by omega]
        exact this
    · rcases List.mem_append.1 hx with hx | hx
      · exact hB x hx
      · simp only [List.mem_cons, List.mem_nil_iff, or_false] at hx
        subst hx; exact ⟨h1, h2⟩
end Go.Proofs.YtfoeooddnmppnaaDoor

/- The statement ZipPackedSaid of this seat: for every input the law returns true and its arguments read as they did. No condition. -/
namespace Go.Proofs.YtfoeooddnmppnaaDoor.zipPacked
open Go.ChangeShapes Go.WideShapes Go.ChangeAt Go.RowKit
open Go.ChangeMaps (open_string shut_string)
set_option linter.unusedVariables false

theorem own : ownKnob Tryd.prog.godebug = none := by kernel_rfl
theorem laidOut : laidOutB Tryd.prog = true := by kernel_rfl

set_option maxRecDepth 100000 in
theorem lifted (os : Os) (started : os.Started) (H : Type) (enc : TypeId × Value → H) :
    ReturnsInHanded {} Tryd.checked os 10 .any (fun w args => (Rows.zipPackedSpec.pre enc Tryd.prog Tryd.f10 [] false w args ∧ laidMetH Tryd.prog Rows.zipPackedRow.laid w) ∧ sizedMet enc Tryd.prog Tryd.f10 (OpenSpec.ofChange Rows.zipPackedSpec) false w args)
      (Rows.zipPackedSpec.post enc Tryd.prog Tryd.f10 false true false false) := by
  refine returnsInHanded_of_change_and (C := Tryd.checked) (X := fun w _ => laidMetH Tryd.prog Rows.zipPackedRow.laid w) (fun _ _ _ hh h => h.of_heap hh) own started (by kernel_rfl) Tryd.func10
    (ChangeSpec.witness_shaped (enc := enc) (C := Tryd.checked) (os := os) (X := fun w _ => laidMetH Tryd.prog Rows.zipPackedRow.laid w) false (World.laidAll Tryd.prog os Rows.zipPackedRow.laid) #[.slice none 0 0, .slice none 0 0] 8 (World.laidAll_os _ _ _)
      (World.shaped_of_ZipB (by kernel_rfl) (by kernel_rfl)) (by kernel_rfl) (by kernel_rfl) (by kernel_rfl)
      (by rw [MakeChecks.laidMetH_plain _ _ _ (by kernel_rfl)]; exact laidMet_laidAll _ (by kernel_rfl) (by kernel_rfl))) ?_
  intro W base args ds gs before hval0 hW _ hsz hL _
  have hval : ∀ (j : Nat) t v, Tryd.f10.params[j]? = some t → args[j]? = some v → Value.okWide Tryd.prog W .any base t v := hval0
  have hW' := hW
  obtain ⟨p, q, hA0, hV, rfl, hfz, hnd⟩ := hW
  have hA : DataW.TrodAll enc Tryd.prog W 0 (fun _ => true) true Tryd.f10.params.toList args.toList ds p := hA0
  rw [Tryd.params10] at hA hval
  obtain ⟨v0, vs0, d0, ds0, p0, q0, hargs, rfl, rfl, h0, r0⟩ := trodAll_cons hA
  obtain ⟨v1, vs1, d1, ds1, p1, q1, rfl, rfl, rfl, h1, r1⟩ := trodAll_cons r0
  obtain ⟨rfl, rfl, rfl⟩ := trodAll_nil r1
  obtain rfl : args = #[v0, v1] := by cases args; simp_all
  obtain ⟨rfl, rfl⟩ := trodVars_none hV
  obtain ⟨a0, len0, cap0, rfl⟩ := okWide_slice Tryd.underlying22 (hval 0 22 v0 rfl rfl)
  have k0 := h0
  have lt0 : ∀ x ∈ p0, x.block < W.heap.size := by obtain ⟨m, hm⟩ := k0; exact DataW.trod_lt m _ _ _ hm
  obtain ⟨w0, c0⟩ : Vc.IsRows 2 (fun vs => ∃ x0 x1, vs = [.string x0, .string x1] ∧ x0.size ≤ reachBytes ∧ x1.size ≤ reachBytes) W a0 len0 ∧ len0 ≤ cap0 := by
    obtain ⟨fuel, hf⟩ := h0
    refine Vc.open_rowsW Tryd.underlying22 Tryd.underlying37 (by kernel_rfl) (by kernel_rfl) (List.all_eq_true.2 fun q hq => List.all_eq_true.1 hsz q (DataW.weights_mem_each (j := 0) (t := 22) rfl rfl q hq)) ?_ hf
    intro n cs hcs hall
    match cs, hcs with
    | [c0, c1], _ =>
      obtain ⟨y0, g0, k0⟩ := hall 0 _ c0 rfl rfl
      obtain ⟨x0, e0, d0, f0⟩ := DataW.trod_string Tryd.underlying9 g0
      obtain rfl := (List.cons.inj e0).1
      have f0 : x0.size ≤ reachBytes := by simpa [d0, DataW.weights] using k0
      obtain ⟨y1, g1, k1⟩ := hall 1 _ c1 rfl rfl
      obtain ⟨x1, e1, d1, f1⟩ := DataW.trod_string Tryd.underlying9 g1
      obtain rfl := (List.cons.inj e1).1
      have f1 : x1.size ≤ reachBytes := by simpa [d1, DataW.weights] using k1
      exact ⟨x0, x1, rfl, f0, f1⟩
  obtain ⟨a1, len1, cap1, rfl⟩ := okWide_slice Tryd.underlying54 (hval 1 54 v1 rfl rfl)
  have k1 := h1
  have lt1 : ∀ x ∈ p1, x.block < W.heap.size := by obtain ⟨m, hm⟩ := k1; exact DataW.trod_lt m _ _ _ hm
  have w1 : Vc.IsRows 1 (fun vs => ∃ x, vs = [.bool x]) W a1 len1 := by
    obtain ⟨fuel, hf⟩ := h1
    refine Vc.open_cells Tryd.underlying54 (by kernel_rfl) ?_ hf
    intro n v y g
    obtain ⟨x, e, _⟩ := DataW.trod_bool Tryd.underlying4 g
    obtain rfl := (List.cons.inj e).1
    exact ⟨x, rfl⟩
  clear hA0 hval0
  refine ((files_of len0 w0).elim fun xs h => zipPacked_walk h.2.1 h.1 c0 h.2.2 w1).mono fun e W' ⟨he, bel⟩ => ?_
  subst he
  exact ⟨_, rfl, _, _, _, [], _, [], hW', trodAll_mk1 (shut_bool Tryd.underlying4 _), (trodAll_cons_mk (Below.trod laidOut (by kernel_rfl) (of_decide_eq_true (by kernel_rfl)) k0 bel lt0) (trodAll_cons_mk (Below.trod laidOut (by kernel_rfl) (of_decide_eq_true (by kernel_rfl)) k1 bel lt1) trodAll_mk0)), rfl, bel.frame _, fun h => by cases h⟩

theorem over : Rows.zipPackedRow.holds Tryd.pinned (OpenSpec.ofChange Rows.zipPackedSpec) :=
  OpenClaim.holds_of_wide 10 Tryd.f10 rfl rfl rfl rfl rfl rfl rfl ⟨rfl, rfl, rfl, rfl, rfl⟩ rfl rfl rfl rfl rfl (by kernel_rfl) Tryd.func10 (by kernel_rfl)
    (of_decide_eq_true (by kernel_rfl)) (by unfold Func.isWrapper; first | (rw [if_pos (by decide +kernel)]; kernel_rfl) | (rw [if_neg (by decide +kernel)]; exact ⟨rfl, rfl⟩))
    (fun os started H enc _ => lifted os started H enc)

/-- The statement. -/
theorem proved : Rows.ZipPackedCardSaid :=
  Claim7.holds_tied_plain_at .later [] [.data, .pinned] true (true, "0eb27af101e4e04535c639a375fc4637eed6172aaaeb719e4b37c29ceb5b9f04") true over (fun _ h => by cases h) (by kernel_rfl) (fun _ h => by cases h) zipPacked_row_tie rfl ⟨rfl, rfl⟩ (by kernel_rfl) rfl
    (fun f fn hf hfn => by
      obtain rfl : f = 10 := Option.some.inj ((show Tryd.prog.funcNamed "cartulary/cartularylaw23.ZipPacked" = some 10 by kernel_rfl).symm.trans hf) |>.symm
      obtain rfl : fn = Tryd.f10 := (Option.some.inj (Tryd.func10.symm.trans hfn)).symm
      exact ⟨by kernel_rfl, fun j t ht => by
        rw [Tryd.params10] at ht
        have hm : t ∈ [22, 54] := by simpa using Array.mem_of_getElem? ht
        have hall : ([22, 54].all fun u => !Tryd.prog.wantsStandIn u) = true := by kernel_rfl
        exact (show Tryd.prog.wantsStandIn t = false by simpa using List.all_eq_true.1 hall t hm)⟩)
    (by kernel_rfl)
#print axioms proved
end Go.Proofs.YtfoeooddnmppnaaDoor.zipPacked
