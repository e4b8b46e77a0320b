/- go.mod texts in plain: tokens, lines, and what a text says. Plain. -/
import Derived.Test.YtmhlmdnhpfhoeaaDoorVcStr
set_option linter.unusedVariables false
namespace Go.Proofs.YtmhlmdnhpfhoeaaDoor
open Go Vc Go.Proofs

def escL (d : UInt8) : Option UInt8 := if d = 34 then some 34 else if d = 92 then some 92 else if d = 110 then some 10 else if d = 116 then some 9 else none
/-- The rest of a string; q: behind a backslash. -/
def quotedL : Bool → List UInt8 → Option (List UInt8 × List UInt8)
  | _, [] => none
  | true, d :: r => match escL d with
    | none => none
    | some e => (quotedL false r).map fun x => (e :: x.1, x.2)
  | false, c :: r => if c = 10 then none else if c = 34 then some ([], r) else if c = 92 then quotedL true r
    else (quotedL false r).map fun x => (c :: x.1, x.2)
def rawL : List UInt8 → Option (List UInt8 × List UInt8)
  | [] => none
  | c :: r => if c = 10 then none else if c = 96 then some ([], r) else (rawL r).map fun x => (c :: x.1, x.2)
def isStop (c : UInt8) : Bool := c == 32 || c == 9 || c == 13 || c == 10 || c == 40 || c == 41 || c == 34 || c == 96
def slashes (l : List UInt8) : Bool := match l with
  | a :: b :: _ => a == 47 && b == 47
  | _ => false
def bareL : List UInt8 → List UInt8 × List UInt8
  | [] => ([], [])
  | c :: r => if isStop c = true ∨ slashes (c :: r) = true then ([], c :: r) else (c :: (bareL r).1, (bareL r).2)
def commentL : List UInt8 → List UInt8
  | [] => []
  | c :: r => if c = 10 then c :: r else commentL r
def endL : List UInt8 → Nat × List UInt8 × List UInt8
  | [] => (4, [], [])
  | _ :: r => (3, [], r)
/-- The next token: its kind, its text, the rest. -/
def nextL : List UInt8 → Option (Nat × List UInt8 × List UInt8)
  | [] => some (4, [], [])
  | c :: r => if c = 32 ∨ c = 9 ∨ c = 13 then nextL r else if c = 10 then some (3, [], r) else if c = 40 then some (1, [], r) else if c = 41 then some (2, [], r)
    else if slashes (c :: r) = true then some (endL (commentL (c :: r)))
    else if c = 34 then (quotedL false r).map fun x => (0, x.1, x.2)
    else if c = 96 then (rawL r).map fun x => (0, x.1, x.2)
    else some (0, (bareL (c :: r)).1, (bareL (c :: r)).2)
structure Tok where
  kind : Nat
  text : ByteArray
  at_ : Nat
structure LineE where
  verb : ByteArray
  words : List ByteArray
  at_ : Nat
/-- The directive of a line's tokens; or the verb of a block that it opens. -/
def lineL (now : List Tok) (verb : ByteArray) (inside : Bool) : Option (ByteArray × List ByteArray × ByteArray) :=
  match now with
  | [] => some (⟨#[]⟩, [], ⟨#[]⟩)
  | t :: r => if inside = true then
      (if r = [] ∧ t.kind = 2 then some (⟨#[]⟩, [], ⟨#[]⟩) else if (t :: r).all (fun t => t.kind == 0) = true then some (verb, (t :: r).map (·.text), ⟨#[]⟩) else none)
    else if t.kind ≠ 0 ∨ t.text = ⟨#[]⟩ then none
    else if (r.map (·.kind)) = [1] then some (⟨#[]⟩, [], t.text)
    else if r.all (fun t => t.kind == 0) = true then some (t.text, r.map (·.text), ⟨#[]⟩) else none
/-- After a line: the block's verb, inside, the directives. -/
def stepL (now : List Tok) (verb : ByteArray) (inside : Bool) (out : List LineE) (line : Nat) (x : ByteArray × List ByteArray × ByteArray) : ByteArray × Bool × List LineE :=
  if inside = true ∧ now.map (·.kind) = [2] then (verb, false, out)
  else if x.2.2 ≠ ⟨#[]⟩ then (x.2.2, true, out)
  else if now.map (·.kind) ≠ [] then (verb, inside, out ++ [⟨x.1, x.2.1, line⟩]) else (verb, inside, out)
inductive PRes where
  | bad (at_ : Nat)
  | good (ls : List LineE)
/-- What a text says from here on. -/
inductive PR : List UInt8 → Nat → List Tok → ByteArray → Bool → List LineE → PRes → Prop
  | none {l line now verb inside out} : nextL l = none → PR l line now verb inside out (.bad line)
  | tok {l line now verb inside out k t r res} : nextL l = some (k, t, r) → k ≠ 3 → k ≠ 4 → PR r line (now ++ [⟨k, ⟨t.toArray⟩, line⟩]) verb inside out res → PR l line now verb inside out res
  | line {l line now verb inside out k t r} : nextL l = some (k, t, r) → (k = 3 ∨ k = 4) → lineL now verb inside = none → PR l line now verb inside out (.bad line)
  | next {l line now verb inside out t r x res} : nextL l = some (3, t, r) → lineL now verb inside = some x → PR r (line + 1) [] (stepL now verb inside out line x).1 (stepL now verb inside out line x).2.1 (stepL now verb inside out line x).2.2 res → PR l line now verb inside out res
  | open_ {l line now verb inside out t r x} : nextL l = some (4, t, r) → lineL now verb inside = some x → (stepL now verb inside out line x).2.1 = true → PR l line now verb inside out (.bad line)
  | done {l line now verb inside out t r x} : nextL l = some (4, t, r) → lineL now verb inside = some x → (stepL now verb inside out line x).2.1 = false → PR l line now verb inside out (.good (stepL now verb inside out line x).2.2)
theorem PR.det {l line now verb inside out r1} (h1 : PR l line now verb inside out r1) : ∀ {r2}, PR l line now verb inside out r2 → r1 = r2 := by
  induction h1 with
  | none h =>
    intro r2 h2
    cases h2 with
    | none _ => rfl
    | tok h' => rw [h] at h'; cases h'
    | line h' => rfl
    | next h' => rw [h] at h'; cases h'
    | open_ h' => rfl
    | done h' => rw [h] at h'; cases h'
  | tok h k3 k4 _ ih =>
    intro r2 h2
    cases h2 with
    | none h' => rw [h] at h'; cases h'
    | tok h' _ _ h'' => rw [h] at h'; cases h'; exact ih h''
    | line h' hk => rw [h] at h'; cases h'; rcases hk with hk | hk; exact absurd hk k3; exact absurd hk k4
    | next h' => rw [h] at h'; cases h'; exact absurd rfl k3
    | open_ h' => rw [h] at h'; cases h'; exact absurd rfl k4
    | done h' => rw [h] at h'; cases h'; exact absurd rfl k4
  | line h hk hl =>
    intro r2 h2
    cases h2 with
    | none h' => rfl
    | tok h' a b _ => rw [h] at h'; cases h'; rcases hk with hk | hk; exact absurd hk a; exact absurd hk b
    | line _ _ _ => rfl
    | next _ h' => rw [hl] at h'; cases h'
    | open_ _ _ _ => rfl
    | done _ h' => rw [hl] at h'; cases h'
  | next h hl _ ih =>
    intro r2 h2
    cases h2 with
    | none h' => rw [h] at h'; cases h'
    | tok h' a b _ => rw [h] at h'; cases h'; exact absurd rfl a
    | line _ _ h' => rw [hl] at h'; cases h'
    | next h' hl' hp => rw [h] at h'; cases h'; rw [hl] at hl'; cases hl'; exact ih hp
    | open_ h' => rw [h] at h'; cases h'
    | done h' => rw [h] at h'; cases h'
  | open_ h hl hi =>
    intro r2 h2
    cases h2 with
    | none h' => rfl
    | tok h' a b _ => rw [h] at h'; cases h'; exact absurd rfl b
    | line _ _ h' => rfl
    | next h' => rw [h] at h'; cases h'
    | open_ _ _ _ => rfl
    | done h' hl' hi' => rw [hl] at hl'; cases hl'; rw [hi] at hi'; cases hi'
  | done h hl hi =>
    intro r2 h2
    cases h2 with
    | none h' => rw [h] at h'; cases h'
    | tok h' a b _ => rw [h] at h'; cases h'; exact absurd rfl b
    | line _ _ h' => rw [hl] at h'; cases h'
    | next h' => rw [h] at h'; cases h'
    | open_ h' hl' hi' => rw [hl] at hl'; cases hl'; rw [hi] at hi'; cases hi'
    | done h' hl' hi' => rw [hl] at hl'; cases hl'; rfl

/-! ### Texts one behind the other -/
def EndsNL (l : List UInt8) : Prop := ∃ x, l = x ++ [10]
theorem EndsNL.tail {c : UInt8} {r : List UInt8} (h : EndsNL (c :: r)) : (r = [] ∧ c = 10) ∨ EndsNL r := by
  obtain ⟨x, hx⟩ := h
  cases x with
  | nil => simp at hx; exact .inl ⟨hx.2, hx.1⟩
  | cons d x => simp at hx; exact .inr ⟨x, hx.2⟩
theorem EndsNL.ne {l : List UInt8} (h : EndsNL l) : l ≠ [] := by
  obtain ⟨x, hx⟩ := h
  rw [hx]; simp
def nls (l : List UInt8) : Nat := (l.filter (· == 10)).length
theorem nls_cons (c : UInt8) (r : List UInt8) : nls (c :: r) = (if c = 10 then 1 else 0) + nls r := by
  unfold nls
  rw [List.filter_cons]
  by_cases h : c = 10
  · rw [if_pos (by simpa using h), if_pos h, List.length_cons]; omega
  · rw [if_neg (by simpa using h), if_neg h]; omega
/-- A part that stops within a line leaves what it leaves, and what follows. -/
def Within (l : List UInt8) (x y : Option (List UInt8 × List UInt8)) (b : List UInt8) : Prop :=
  y = x.map (fun p => (p.1, p.2 ++ b)) ∧ ∀ p, x = some p → EndsNL p.2 ∧ nls p.2 = nls l
theorem quoted_app (b : List UInt8) : ∀ (q : Bool) (l : List UInt8), EndsNL l → Within l (quotedL q l) (quotedL q (l ++ b)) b
  | _, [], h => absurd rfl h.ne
  | true, d :: r', hr => by
    unfold Within
    rw [List.cons_append, quotedL, quotedL]
    cases he : escL d with
    | none => exact ⟨rfl, fun p hp => by cases hp⟩
    | some e =>
      simp only
      have hd : d ≠ 10 := fun e' => by rw [e'] at he; cases (show (none : Option UInt8) = some e from he)
      have hr' : EndsNL r' := by
        rcases hr.tail with ⟨_, e'⟩ | h
        · exact absurd e' hd
        · exact h
      have hc' : nls (d :: r') = nls r' := by rw [nls_cons, if_neg hd, Nat.zero_add]
      obtain ⟨h1, h2⟩ := quoted_app b false r' hr'
      rw [h1]
      refine ⟨by cases quotedL false r' <;> rfl, fun p hp => ?_⟩
      obtain ⟨q, hq, rfl⟩ := Option.map_eq_some_iff.1 hp
      obtain ⟨h3, h4⟩ := h2 q hq
      exact ⟨h3, by rw [h4, hc']⟩
  | false, c :: r, h => by
    unfold Within
    rw [List.cons_append, quotedL, quotedL]
    by_cases h10 : c = 10
    · rw [if_pos h10, if_pos h10]
      exact ⟨rfl, fun p hp => by cases hp⟩
    rw [if_neg h10, if_neg h10]
    have hr : EndsNL r := by
      rcases h.tail with ⟨_, e⟩ | h
      · exact absurd e h10
      · exact h
    have hc : nls (c :: r) = nls r := by rw [nls_cons, if_neg h10, Nat.zero_add]
    by_cases h34 : c = 34
    · rw [if_pos h34, if_pos h34]
      exact ⟨rfl, fun p hp => by cases hp; exact ⟨hr, hc.symm⟩⟩
    rw [if_neg h34, if_neg h34]
    by_cases h92 : c = 92
    · rw [if_pos h92, if_pos h92]
      obtain ⟨h1, h2⟩ := quoted_app b true r hr
      exact ⟨h1, fun p hp => ⟨(h2 p hp).1, (h2 p hp).2.trans hc.symm⟩⟩
    · rw [if_neg h92, if_neg h92]
      obtain ⟨h1, h2⟩ := quoted_app b false r hr
      rw [h1]
      refine ⟨by cases quotedL false r <;> rfl, fun p hp => ?_⟩
      obtain ⟨q, hq, rfl⟩ := Option.map_eq_some_iff.1 hp
      obtain ⟨h3, h4⟩ := h2 q hq
      exact ⟨h3, by rw [h4, hc]⟩
theorem raw_app (b : List UInt8) : ∀ (l : List UInt8), EndsNL l → Within l (rawL l) (rawL (l ++ b)) b
  | [], h => absurd rfl h.ne
  | c :: r, h => by
    unfold Within
    rw [List.cons_append, rawL, rawL]
    by_cases h10 : c = 10
    · rw [if_pos h10, if_pos h10]
      exact ⟨rfl, fun p hp => by cases hp⟩
    rw [if_neg h10, if_neg h10]
    have hr : EndsNL r := by
      rcases h.tail with ⟨_, e⟩ | h
      · exact absurd e h10
      · exact h
    have hc : nls (c :: r) = nls r := by rw [nls_cons, if_neg h10, Nat.zero_add]
    by_cases h96 : c = 96
    · rw [if_pos h96, if_pos h96]
      exact ⟨rfl, fun p hp => by cases hp; exact ⟨hr, hc.symm⟩⟩
    rw [if_neg h96, if_neg h96]
    obtain ⟨h1, h2⟩ := raw_app b r hr
    rw [h1]
    refine ⟨by cases rawL r <;> rfl, fun p hp => ?_⟩
    obtain ⟨q, hq, rfl⟩ := Option.map_eq_some_iff.1 hp
    obtain ⟨h3, h4⟩ := h2 q hq
    exact ⟨h3, by rw [h4, hc]⟩
theorem slashes_app {l : List UInt8} (h : EndsNL l) (b : List UInt8) : slashes (l ++ b) = slashes l := by
  cases l with
  | nil => exact absurd rfl h.ne
  | cons c r =>
    cases r with
    | nil =>
      rcases h.tail with ⟨_, e⟩ | h
      · subst e
        cases b with
        | nil => rfl
        | cons d b => rfl
      · exact absurd rfl h.ne
    | cons d r => rfl
theorem bare_app (b : List UInt8) : ∀ (l : List UInt8), EndsNL l → bareL (l ++ b) = ((bareL l).1, (bareL l).2 ++ b) ∧ EndsNL (bareL l).2 ∧ nls (bareL l).2 = nls l
  | [], h => absurd rfl h.ne
  | c :: r, h => by
    have hs := slashes_app h b
    rw [List.cons_append] at hs
    rw [List.cons_append, bareL, bareL, hs]
    by_cases hc : isStop c = true ∨ slashes (c :: r) = true
    · rw [if_pos hc, if_pos hc]
      exact ⟨rfl, h, rfl⟩
    · rw [if_neg hc, if_neg hc]
      have h10 : c ≠ 10 := fun e => hc (.inl (by rw [e]; rfl))
      have hr : EndsNL r := by
        rcases h.tail with ⟨_, e⟩ | h
        · exact absurd e h10
        · exact h
      obtain ⟨h1, h2, h3⟩ := bare_app b r hr
      rw [h1]
      exact ⟨rfl, h2, by rw [nls_cons, if_neg h10, Nat.zero_add]; exact h3⟩
theorem comment_app (b : List UInt8) : ∀ (l : List UInt8), EndsNL l → ∃ r, commentL l = 10 :: r ∧ commentL (l ++ b) = 10 :: (r ++ b) ∧ (r = [] ∨ EndsNL r) ∧ nls r + 1 = nls l
  | [], h => absurd rfl h.ne
  | c :: r, h => by
    rw [List.cons_append, commentL, commentL]
    by_cases h10 : c = 10
    · rw [if_pos h10, if_pos h10]
      subst h10
      refine ⟨r, rfl, rfl, ?_, by rw [nls_cons, if_pos rfl]; omega⟩
      rcases h.tail with ⟨e, _⟩ | h
      · exact .inl e
      · exact .inr h
    · rw [if_neg h10, if_neg h10]
      have hr : EndsNL r := by
        rcases h.tail with ⟨_, e⟩ | h
        · exact absurd e h10
        · exact h
      obtain ⟨q, h1, h2, h3, h4⟩ := comment_app b r hr
      exact ⟨q, h1, h2, h3, by rw [nls_cons, if_neg h10]; omega⟩
theorem next_app (b : List UInt8) : ∀ (l : List UInt8), EndsNL l → nextL (l ++ b) = (nextL l).map (fun p => (p.1, p.2.1, p.2.2 ++ b)) ∧ ∀ k t r, nextL l = some (k, t, r) → k ≠ 4 ∧ (k = 3 → (r = [] ∨ EndsNL r) ∧ nls r + 1 = nls l) ∧ (k ≠ 3 → EndsNL r ∧ nls r = nls l)
  | [], h => absurd rfl h.ne
  | c :: r, h => by
    have hs := slashes_app h b
    rw [List.cons_append] at hs
    rw [List.cons_append, nextL, nextL, hs]
    have hrr : c ≠ 10 → EndsNL r := fun h10 => by
      rcases h.tail with ⟨_, e⟩ | h
      · exact absurd e h10
      · exact h
    have hcc : c ≠ 10 → nls (c :: r) = nls r := fun h10 => by rw [nls_cons, if_neg h10, Nat.zero_add]
    by_cases h1 : c = 32 ∨ c = 9 ∨ c = 13
    · rw [if_pos h1, if_pos h1]
      have h10 : c ≠ 10 := by rcases h1 with h | h | h <;> rw [h] <;> decide
      obtain ⟨h2, h3⟩ := next_app b r (hrr h10)
      rw [hcc h10]
      exact ⟨h2, h3⟩
    rw [if_neg h1, if_neg h1]
    by_cases h10 : c = 10
    · rw [if_pos h10, if_pos h10]
      refine ⟨rfl, fun k t q hq => ?_⟩
      cases hq
      refine ⟨by decide, fun _ => ⟨?_, by rw [nls_cons, if_pos h10]; omega⟩, fun h => absurd rfl h⟩
      rcases h.tail with ⟨e, _⟩ | h
      · exact .inl e
      · exact .inr h
    rw [if_neg h10, if_neg h10]
    have hr := hrr h10
    have hc := hcc h10
    by_cases h40 : c = 40
    · rw [if_pos h40, if_pos h40]
      refine ⟨rfl, fun k t q hq => ?_⟩
      cases hq
      exact ⟨by decide, fun h => absurd h (by decide), fun _ => ⟨hr, hc.symm⟩⟩
    rw [if_neg h40, if_neg h40]
    by_cases h41 : c = 41
    · rw [if_pos h41, if_pos h41]
      refine ⟨rfl, fun k t q hq => ?_⟩
      cases hq
      exact ⟨by decide, fun h => absurd h (by decide), fun _ => ⟨hr, hc.symm⟩⟩
    rw [if_neg h41, if_neg h41]
    by_cases hsl : slashes (c :: r) = true
    · rw [if_pos hsl, if_pos hsl]
      obtain ⟨q, h2, h3, h4, h5⟩ := comment_app b (c :: r) h
      rw [List.cons_append] at h3
      rw [h2, h3]
      refine ⟨rfl, fun k t q' hq => ?_⟩
      cases hq
      exact ⟨by decide, fun _ => ⟨h4, h5⟩, fun h => absurd rfl h⟩
    rw [if_neg hsl, if_neg hsl]
    by_cases h34 : c = 34
    · rw [if_pos h34, if_pos h34]
      obtain ⟨h2, h3⟩ := quoted_app b false r hr
      rw [h2]
      refine ⟨by cases quotedL false r <;> rfl, fun k t q hq => ?_⟩
      obtain ⟨p, hp, he⟩ := Option.map_eq_some_iff.1 hq
      cases he
      obtain ⟨h4, h5⟩ := h3 p hp
      exact ⟨by decide, fun h => absurd h (by decide), fun _ => ⟨h4, by rw [h5, hc]⟩⟩
    rw [if_neg h34, if_neg h34]
    by_cases h96 : c = 96
    · rw [if_pos h96, if_pos h96]
      obtain ⟨h2, h3⟩ := raw_app b r hr
      rw [h2]
      refine ⟨by cases rawL r <;> rfl, fun k t q hq => ?_⟩
      obtain ⟨p, hp, he⟩ := Option.map_eq_some_iff.1 hq
      cases he
      obtain ⟨h4, h5⟩ := h3 p hp
      exact ⟨by decide, fun h => absurd h (by decide), fun _ => ⟨h4, by rw [h5, hc]⟩⟩
    rw [if_neg h96, if_neg h96]
    obtain ⟨h2, h3, h4⟩ := bare_app b (c :: r) h
    rw [List.cons_append] at h2
    rw [h2]
    refine ⟨rfl, fun k t q hq => ?_⟩
    cases hq
    exact ⟨by decide, fun h => absurd h (by decide), fun _ => ⟨h3, h4⟩⟩
/-- A text that ends with a line's end, and what follows. -/
theorem PR.app {l line now verb inside out ra} (h : PR l line now verb inside out ra) : (EndsNL l ∨ (l = [] ∧ now = [])) → ∀ {x}, ra = .good x → ∀ b, ∃ verb', ∀ res, PR b (line + nls l) [] verb' false x res → PR (l ++ b) line now verb inside out res := by
  induction h with
  | none h => intro _ x hx; cases hx
  | line h _ _ => intro _ x hx; cases hx
  | open_ h _ _ => intro _ x hx; cases hx
  | @tok l line now verb inside out k t r res h k3 k4 _ ih =>
    intro hl x hx b
    rcases hl with hl | ⟨rfl, _⟩
    · obtain ⟨h1, h2⟩ := next_app b l hl
      obtain ⟨_, _, h3⟩ := h2 k t r h
      obtain ⟨h4, h5⟩ := h3 k3
      obtain ⟨v, hv⟩ := ih (.inl h4) hx b
      refine ⟨v, fun res hp => .tok (by rw [h1, h]; rfl) k3 k4 (hv res (by rw [h5]; exact hp))⟩
    · cases h; exact absurd rfl k4
  | @next l line now verb inside out t r x' res h hl' _ ih =>
    intro hl x hx b
    rcases hl with hl | ⟨rfl, _⟩
    · obtain ⟨h1, h2⟩ := next_app b l hl
      obtain ⟨_, h3, _⟩ := h2 3 t r h
      obtain ⟨h4, h5⟩ := h3 rfl
      obtain ⟨v, hv⟩ := ih (h4.elim (fun e => .inr ⟨e, rfl⟩) .inl) hx b
      refine ⟨v, fun res hp => .next (by rw [h1, h]; rfl) hl' (hv res (by rw [show line + 1 + nls r = line + nls l by omega]; exact hp))⟩
    · cases h
  | @done l line now verb inside out t r x' h hl' hi =>
    intro hl x hx b
    rcases hl with hl | ⟨rfl, rfl⟩
    · obtain ⟨h1, h2⟩ := next_app b l hl
      exact absurd rfl (h2 4 t r h).1
    · cases hl'
      simp only [PRes.good.injEq] at hx
      have hst : stepL ([] : List Tok) verb inside out line (⟨#[]⟩, [], ⟨#[]⟩) = (verb, inside, out) := by
        unfold stepL
        rw [if_neg (by simp), if_neg (by simp), if_neg (by simp)]
      rw [hst] at hx hi
      simp only at hx hi
      subst hx
      subst hi
      exact ⟨verb, fun res hp => hp⟩
def LineE.shift (d : Nat) (l : LineE) : LineE := ⟨l.verb, l.words, l.at_ + d⟩
def PRes.shift (x : List LineE) (d : Nat) : PRes → PRes
  | .bad n => .bad (n + d)
  | .good ls => .good (x ++ ls.map (LineE.shift d))
theorem line_kinds {now now' : List Tok} (h1 : now.map (·.kind) = now'.map (·.kind)) (h2 : now.map (·.text) = now'.map (·.text)) (verb : ByteArray) (inside : Bool) : lineL now verb inside = lineL now' verb inside := by
  have key : ∀ (r r' : List Tok), r.map (·.kind) = r'.map (·.kind) → r.all (fun t => t.kind == 0) = r'.all (fun t => t.kind == 0) := fun r r' h => by
    have e : ∀ r : List Tok, r.all (fun t => t.kind == 0) = (r.map (·.kind)).all (· == 0) := fun r => by rw [List.all_map]; rfl
    rw [e, e, h]
  cases now with
  | nil =>
    cases now' with
    | nil => rfl
    | cons t' r' => simp at h1
  | cons t r =>
    cases now' with
    | nil => simp at h1
    | cons t' r' =>
      simp only [List.map_cons, List.cons.injEq] at h1 h2
      have hr : (r = []) = (r' = []) := by
        have := congrArg List.length h1.2
        simp at this
        apply propext
        rw [← List.length_eq_zero_iff, ← List.length_eq_zero_iff, this]
      unfold lineL
      simp only [h1.1, h1.2, h2.1, h2.2, hr, key (t :: r) (t' :: r') (by simp [h1]), key r r' h1.2, List.map_cons]
theorem line_verb {now : List Tok} {verb verb' : ByteArray} {inside : Bool} (h : inside = true → verb = verb') : lineL now verb inside = lineL now verb' inside := by
  cases inside with
  | true => rw [h rfl]
  | false =>
    cases now with
    | nil => rfl
    | cons t r => rfl
theorem PR.moved {l line now verb inside out res} (h : PR l line now verb inside out res) (x : List LineE) (d : Nat) : ∀ (verb' : ByteArray) (now' : List Tok), (inside = true → verb = verb') → now.map (·.kind) = now'.map (·.kind) → now.map (·.text) = now'.map (·.text) → PR l (line + d) now' verb' inside (x ++ out.map (LineE.shift d)) (res.shift x d) := by
  induction h with
  | none h => intro verb' now' hv h1 h2; exact .none h
  | @tok l line now verb inside out k t r res h k3 k4 _ ih =>
    intro verb' now' hv h1 h2
    exact .tok h k3 k4 (ih verb' _ hv (by simp [h1]) (by simp [h2]))
  | line h hk hl =>
    intro verb' now' hv h1 h2
    exact .line h hk (by rw [← line_kinds h1 h2, ← line_verb hv]; exact hl)
  | @next l line now verb inside out t r x' res h hl _ ih =>
    intro verb' now' hv h1 h2
    have hl' : lineL now' verb' inside = some x' := by rw [← line_kinds h1 h2, ← line_verb hv]; exact hl
    have hs : (stepL now' verb' inside (x ++ out.map (LineE.shift d)) (line + d) x').2 = ((stepL now verb inside out line x').2.1, x ++ (stepL now verb inside out line x').2.2.map (LineE.shift d)) ∧ ((stepL now verb inside out line x').2.1 = true → (stepL now verb inside out line x').1 = (stepL now' verb' inside (x ++ out.map (LineE.shift d)) (line + d) x').1) := by
      unfold stepL
      rw [← h1]
      by_cases c1 : inside = true ∧ now.map (·.kind) = [2]
      · rw [if_pos c1, if_pos c1]
        exact ⟨rfl, fun h => by cases h⟩
      rw [if_neg c1, if_neg c1]
      by_cases c2 : x'.2.2 ≠ ⟨#[]⟩
      · rw [if_pos c2, if_pos c2]
        exact ⟨rfl, fun _ => rfl⟩
      rw [if_neg c2, if_neg c2]
      by_cases c3 : now.map (·.kind) ≠ []
      · rw [if_pos c3, if_pos c3]
        exact ⟨by simp [LineE.shift], hv⟩
      · rw [if_neg c3, if_neg c3]
        exact ⟨rfl, hv⟩
    refine .next h hl' ?_
    rw [hs.1, show line + d + 1 = line + 1 + d by omega]
    exact ih _ [] hs.2 rfl rfl
  | @open_ l line now verb inside out t r x' h hl hi =>
    intro verb' now' hv h1 h2
    refine .open_ h (by rw [← line_kinds h1 h2, ← line_verb hv]; exact hl) ?_
    unfold stepL at hi ⊢
    rw [← h1]
    split
    · rename_i c; rw [if_pos c] at hi; cases hi
    · rename_i c
      rw [if_neg c] at hi
      split
      · rfl
      · rename_i c2
        rw [if_neg c2] at hi
        split
        · rename_i c3; rw [if_pos c3] at hi; exact hi
        · rename_i c3; rw [if_neg c3] at hi; exact hi
  | @done l line now verb inside out t r x' h hl hi =>
    intro verb' now' hv h1 h2
    have hs : (stepL now' verb' inside (x ++ out.map (LineE.shift d)) (line + d) x').2 = ((stepL now verb inside out line x').2.1, x ++ (stepL now verb inside out line x').2.2.map (LineE.shift d)) := by
      unfold stepL
      rw [← h1]
      by_cases c1 : inside = true ∧ now.map (·.kind) = [2]
      · rw [if_pos c1, if_pos c1]
      rw [if_neg c1, if_neg c1]
      by_cases c2 : x'.2.2 ≠ ⟨#[]⟩
      · rw [if_pos c2, if_pos c2]
      rw [if_neg c2, if_neg c2]
      by_cases c3 : now.map (·.kind) ≠ []
      · rw [if_pos c3, if_pos c3]
        simp [LineE.shift]
      · rw [if_neg c3, if_neg c3]
    have := PR.done (line := line + d) (out := x ++ out.map (LineE.shift d)) h (show lineL now' verb' inside = some x' by rw [← line_kinds h1 h2, ← line_verb hv]; exact hl) (by rw [hs]; exact hi)
    rw [hs] at this
    exact this
end Go.Proofs.YtmhlmdnhpfhoeaaDoor
