/- Inflating, on lists of bits. -/
import Derived.Test.YtofejgaanpaieaaHuffP
set_option linter.unusedVariables false
namespace InfM
open BitsM HuffM Go.Proofs.Ytofejgaanpaieaa
/-- An error's number, or a value and the place behind it. -/
abbrev E (α : Type) := Except Nat (α × Nat)
/-- The next n bits. -/
def take (B : List Bool) (n p : Nat) : E Nat := if p + n ≤ B.length then .ok (num ((B.drop p).take n), p + n) else .error 6
/-- A longer code begins with these bits. -/
def Longer (ls : List Nat) (b : List Bool) : Prop := ∃ s, s < ls.length ∧ b.length < (cbits ls s).length ∧ b <+: cbits ls s
open Classical in
/-- The symbol whose code comes next. -/
noncomputable def sym (ls : List Nat) (B : List Bool) (p : Nat) : E Nat :=
  if h : ∃ x : Nat × Nat, HuffM.At ls (B.drop p) x.1 x.2 then .ok (h.choose.1, p + h.choose.2)
  else if Longer ls (B.drop p) then .error 6 else .error 3
theorem sym_at {ls : List Nat} {B : List Bool} {p s n : Nat} (h : HuffM.At ls (B.drop p) s n) : sym ls B p = .ok (s, p + n) := by
  have hx : ∃ x : Nat × Nat, HuffM.At ls (B.drop p) x.1 x.2 := ⟨(s, n), h⟩
  unfold sym
  rw [dif_pos hx]
  obtain ⟨h1, h2⟩ := hx.choose_spec.one h
  rw [h1, h2]
theorem ref_longer {ls : List Nat} (hf : Fits ls) (hg : Gap ls) {b : List Bool} {x err n : Nat} (h : Res ls b x err n) : (err = 0 ∧ HuffM.At ls b x n) ∨ (err = 6 ∧ x = 0 ∧ (∀ s m, ¬ HuffM.At ls b s m) ∧ Longer ls b) ∨ (err = 3 ∧ x = 0 ∧ (∀ s m, ¬ HuffM.At ls b s m) ∧ ¬ Longer ls b) := by
  by_cases h0 : err = 0
  · rcases h with h | ⟨h, _⟩ | ⟨h, _⟩
    · exact .inl h
    · omega
    · omega
  · have hno : ∀ s m, ¬ HuffM.At ls b s m := by
      intro s m ha
      rcases h with ⟨h, _⟩ | ⟨_, _, hn, _, hge, _⟩ | ⟨_, _, hn, _, hge, hz⟩
      · exact h0 h
      · subst hn; exact no_at (Nat.le_refl _) (by rwa [List.take_length]) ha.2.2.1 ha
      · exact no_at hn hge (hz _ (List.mem_of_getElem? ha.1)) ha
    rcases Classical.em (Longer ls b) with hl | hl
    · have href : RefRes ls b 0 0 6 := .inr (.inl ⟨rfl, rfl, rfl, hno, hl.imp fun _ h => h.2⟩)
      obtain ⟨h1, h2, _⟩ := res_ref hf hg h href
      exact .inr (.inl ⟨h2, h1, hno, hl⟩)
    · have href : RefRes ls b 0 0 3 := .inr (.inr ⟨rfl, rfl, rfl, hno, fun s h1 h2 h3 => hl ⟨s, h1, h2, h3⟩⟩)
      obtain ⟨h1, h2, _⟩ := res_ref hf hg h href
      exact .inr (.inr ⟨h2, h1, hno, hl⟩)
/-- What the table's reading comes to, as a function. -/
theorem sym_res {ls : List Nat} (hf : Fits ls) (hg : Gap ls) {B : List Bool} {p x err n : Nat} (h : Res ls (B.drop p) x err n) :
    (err = 0 ∧ sym ls B p = .ok (x, p + n) ∧ 1 ≤ n ∧ n ≤ (B.drop p).length ∧ x < ls.length) ∨ ((err = 6 ∨ err = 3) ∧ x = 0 ∧ sym ls B p = .error err) := by
  rcases ref_longer hf hg h with ⟨h1, h2⟩ | ⟨h1, h2, h3, h4⟩ | ⟨h1, h2, h3, h4⟩
  · exact .inl ⟨h1, sym_at h2, h2.2.1, h2.2.2.1, (List.getElem?_eq_some_iff.1 h2.1).1⟩
  · refine .inr ⟨.inl h1, h2, ?_⟩
    unfold sym
    rw [dif_neg (fun ⟨x, hx⟩ => h3 _ _ hx), if_pos h4, h1]
  · refine .inr ⟨.inr h1, h2, ?_⟩
    unfold sym
    rw [dif_neg (fun ⟨x, hx⟩ => h3 _ _ hx), if_neg h4, h1]

/-- Bytes out of bits. -/
def bytesAt (B : List Bool) (n p : Nat) : List UInt8 := (List.range n).map fun i => UInt8.ofNat (num ((B.drop (p + 8 * i)).take 8))
/-- A stored block. -/
def stored (most : Nat) (B : List Bool) (p0 : Nat) (out : List UInt8) : E (List UInt8) :=
  let p := (p0 + 7) / 8 * 8
  if p + 32 ≤ B.length then
    let n := num ((B.drop p).take 16)
    if n + num ((B.drop (p + 16)).take 16) ≠ 65535 then .error 3
    else if p + 32 + 8 * n ≤ B.length then
      if most < out.length + n then .error 2 else .ok (out ++ bytesAt B n (p + 32), p + 32 + 8 * n)
    else if most < out.length + (B.length - (p + 32)) / 8 then .error 2 else .error 6
  else .error 6
/-- The lengths of a dynamic block's codes. -/
noncomputable def clens (cl : List Nat) (tot : Nat) (B : List Bool) : Nat → Nat → List Nat → E (List Nat)
  | 0, _, _ => .error 99
  | f + 1, p, l =>
    if tot ≤ l.length then .ok (l, p)
    else match sym cl B p with
      | .error e => .error e
      | .ok (s, p) =>
        if s < 16 then clens cl tot B f p (l ++ [s])
        else if s = 16 ∧ l = [] then .error 3
        else match take B (if s = 16 then 2 else if s = 17 then 3 else 7) p with
          | .error e => .error e
          | .ok (n, p) =>
            let k := (if s = 16 ∨ s = 17 then 3 else 11) + n
            if tot < l.length + k then .error 3 else clens cl tot B f p (l ++ List.replicate k (if s = 16 then l.getLastD 0 else 0))
def places : List Nat := [16, 17, 18, 0, 8, 7, 9, 6, 10, 5, 11, 4, 12, 3, 13, 2, 14, 1, 15]
/-- The lengths of the codes of lengths: those in these places. -/
def firsts (B : List Bool) : List Nat → Nat → List Nat → E (List Nat)
  | [], p, l => .ok (l, p)
  | i :: r, p, l => match take B 3 p with
    | .error e => .error e
    | .ok (n, p) => firsts B r p (l.set i n)
def chkN (ls : List Nat) : Nat := chk (ls.map Int.ofNat)
noncomputable def tables (B : List Bool) (p : Nat) : E (List Nat × List Nat) :=
  match take B 14 p with
  | .error e => .error e
  | .ok (h, p) =>
    let nl := h % 32 + 257
    let nd := h / 32 % 32 + 1
    let nc := h / 1024 + 4
    if 286 < nl ∨ 30 < nd then .error 3
    else match firsts B (places.take nc) p (List.replicate 19 0) with
      | .error e => .error e
      | .ok (first, p) =>
        if chkN first ≠ 0 then .error 3
        else match clens first (nl + nd) B (nl + nd + 1) p [] with
          | .error e => .error e
          | .ok (l, p) => if l.getD 256 0 = 0 ∨ chkN (l.take nl) ≠ 0 ∨ chkN (l.drop nl) ≠ 0 then .error 3 else .ok ((l.take nl, l.drop nl), p)
def lenBase (i : Nat) : Nat × Nat := if i = 28 then (258, 0) else if i < 8 then (3 + i, 0) else (3 + (4 + i % 4) * 2 ^ (i / 4 - 1), i / 4 - 1)
def distBase (i : Nat) : Nat × Nat := if i < 4 then (1 + i, 0) else (1 + (2 + i % 2) * 2 ^ (i / 2 - 1), i / 2 - 1)
/-- n bytes from so far back. -/
def copy (back : Nat) : Nat → List UInt8 → List UInt8
  | 0, out => out
  | n + 1, out => copy back n (out ++ [out.getD (out.length - back) 0])
noncomputable def rep (dist : List Nat) (most : Nat) (B : List Bool) (s p : Nat) (out : List UInt8) : E (List UInt8) :=
  if 285 < s then .error 3
  else match take B (lenBase (s - 257)).2 p with
    | .error e => .error e
    | .ok (more, p) => match sym dist B p with
      | .error e => .error e
      | .ok (d, p) =>
        if 29 < d then .error 3
        else match take B (distBase d).2 p with
          | .error e => .error e
          | .ok (far, p) =>
            let n := (lenBase (s - 257)).1 + more
            let back := (distBase d).1 + far
            if out.length < back then .error 3
            else if most < out.length + n then .error 2 else .ok (copy back n out, p)
noncomputable def packed (lit dist : List Nat) (most : Nat) (B : List Bool) : Nat → Nat → List UInt8 → E (List UInt8)
  | 0, _, _ => .error 99
  | f + 1, p, out => match sym lit B p with
    | .error e => .error e
    | .ok (s, p) =>
      if s = 256 then .ok (out, p)
      else if s < 256 then if out.length = most then .error 2 else packed lit dist most B f p (out ++ [UInt8.ofNat s])
      else match rep dist most B s p out with
        | .error e => .error e
        | .ok (out, p) => packed lit dist most B f p out
def fixedLit : List Nat := List.replicate 144 8 ++ List.replicate 112 9 ++ List.replicate 24 7 ++ List.replicate 8 8
def fixedDist : List Nat := List.replicate 32 5
noncomputable def block (most : Nat) (B : List Bool) (kind p : Nat) (out : List UInt8) : E (List UInt8) :=
  if kind = 0 then stored most B p out
  else if kind = 1 then packed fixedLit fixedDist most B (B.length + 1) p out
  else if kind = 2 then match tables B p with
    | .error e => .error e
    | .ok ((lit, dist), p) => packed lit dist most B (B.length + 1) p out
  else .error 3
noncomputable def blocks (most : Nat) (B : List Bool) : Nat → Nat → List UInt8 → E (List UInt8)
  | 0, _, _ => .error 99
  | f + 1, p, out => match take B 3 p with
    | .error e => .error e
    | .ok (h, p) => match block most B (h / 2) p out with
      | .error e => .error e
      | .ok (out, p) => if h % 2 = 1 then .ok (out, p) else blocks most B f p out
/-- What the bits say, within so many bytes. -/
noncomputable def inf (most : Nat) (B : List Bool) : E (List UInt8) := blocks most B (B.length + 1) 0 []
/-- .. of a text from a place on: what comes out, how many bytes are taken, the error's number. -/
noncomputable def inflate (s : List UInt8) (at_ most : Int) : List UInt8 × Nat × Nat :=
  if at_ < 0 ∨ (s.length : Int) < at_ ∨ most < 0 ∨ 65536 < most then ([], 0, 1)
  else match inf most.toNat (sbits (s.drop at_.toNat)) with
    | .error e => ([], 0, e)
    | .ok (out, p) => (out, (p + 7) / 8, 0)
end InfM
