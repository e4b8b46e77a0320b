/- Plain laws on inflating: a greater limit changes nothing of what was read within a smaller one. -/
import Derived.Test.YtofejgaanpaieaaInfM
set_option linter.unusedVariables false
namespace InfM
open BitsM HuffM Go.Proofs.Ytofejgaanpaieaa
/-- Too much comes out; or a greater limit changes nothing. -/
def Good (most : Nat) (r r' : E (List UInt8)) : Prop := r = .error 2 ∨ (r' = r ∧ ∀ out p, r = .ok (out, p) → out.length ≤ most)
theorem Good.err {most e : Nat} : Good most (.error e) (.error e) := .inr ⟨rfl, fun _ _ h => by cases h⟩
theorem copy_len (back : Nat) : ∀ (k : Nat) (out : List UInt8), (copy back k out).length = out.length + k
  | 0, _ => rfl
  | k + 1, out => by rw [copy, copy_len back k, List.length_append]; simp; omega
theorem stored_good {most more : Nat} (hm : most ≤ more) (B : List Bool) (p : Nat) (out : List UInt8) : Good most (stored most B p out) (stored more B p out) := by
  unfold stored
  simp only
  split
  · split
    · exact .err
    · split
      · split
        · exact .inl rfl
        · rw [if_neg (by omega)]
          refine .inr ⟨rfl, fun o q h => ?_⟩
          cases h
          simp [bytesAt]; omega
      · split
        · exact .inl rfl
        · rw [if_neg (by omega)]; exact .err
  · exact .err
theorem rep_good {most more : Nat} (hm : most ≤ more) (dist : List Nat) (B : List Bool) (s p : Nat) (out : List UInt8) : Good most (rep dist most B s p out) (rep dist more B s p out) := by
  unfold rep
  split
  · exact .err
  split
  · exact .err
  split
  · exact .err
  split
  · exact .err
  split
  · exact .err
  simp only
  split
  · exact .err
  split
  · exact .inl rfl
  · rw [if_neg (by omega)]
    refine .inr ⟨rfl, fun o q h => ?_⟩
    cases h
    rw [copy_len]; omega
theorem packed_good {most more : Nat} (hm : most ≤ more) (lit dist : List Nat) (B : List Bool) : ∀ (f p : Nat) (out : List UInt8), out.length ≤ most → Good most (packed lit dist most B f p out) (packed lit dist more B f p out)
  | 0, p, out, ho => .err
  | f + 1, p, out, ho => by
    rw [packed, packed]
    split
    · exact .err
    split
    · exact .inr ⟨rfl, fun o q h => by cases h; exact ho⟩
    split
    · split
      · exact .inl rfl
      · rw [if_neg (by omega)]
        exact packed_good hm lit dist B f _ _ (by rw [List.length_append]; simp; omega)
    · rename_i s p1 _ _ _
      rcases rep_good hm dist B s p1 out with h | ⟨h, hl⟩
      · rw [h]; exact .inl rfl
      · rw [h]
        split
        · exact .err
        · rename_i o q hr
          exact packed_good hm lit dist B f _ _ (hl _ _ hr)
theorem block_good {most more : Nat} (hm : most ≤ more) (B : List Bool) (kind p : Nat) (out : List UInt8) (ho : out.length ≤ most) : Good most (block most B kind p out) (block more B kind p out) := by
  unfold block
  split
  · exact stored_good hm B p out
  split
  · exact packed_good hm _ _ B _ _ _ ho
  split
  · split
    · exact .err
    · exact packed_good hm _ _ B _ _ _ ho
  · exact .err
theorem blocks_good {most more : Nat} (hm : most ≤ more) (B : List Bool) : ∀ (f p : Nat) (out : List UInt8), out.length ≤ most → Good most (blocks most B f p out) (blocks more B f p out)
  | 0, p, out, ho => .err
  | f + 1, p, out, ho => by
    rw [blocks, blocks]
    split
    · exact .err
    rename_i h p1 _
    rcases block_good hm B (h / 2) p1 out ho with hb | ⟨hb, hl⟩
    · rw [hb]; exact .inl rfl
    · rw [hb]
      split
      · exact .err
      rename_i o q hr
      split
      · exact .inr ⟨rfl, fun o' q' h => by cases h; exact hl _ _ hr⟩
      · exact blocks_good hm B f _ _ (hl _ _ hr)
/-- A greater limit changes nothing of what was read within a smaller one. -/
theorem inflate_more {s : List UInt8} {most more : Int} (h0 : 0 ≤ most) (hm : most ≤ more) (h6 : more ≤ 65536) (h2 : (inflate s 0 most).2.2 ≠ 2) : inflate s 0 more = inflate s 0 most := by
  unfold inflate at h2 ⊢
  rw [if_neg (by omega)] at h2
  rw [if_neg (by omega), if_neg (by omega)]
  rcases blocks_good (show most.toNat ≤ more.toNat by omega) (sbits (s.drop (0 : Int).toNat)) ((sbits (s.drop (0 : Int).toNat)).length + 1) 0 [] (Nat.zero_le _) with h | ⟨h, _⟩
  · unfold inf at h2
    rw [h] at h2
    exact absurd rfl h2
  · unfold inf
    rw [h]
end InfM
