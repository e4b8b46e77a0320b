/- A folder's entries: what they are, when they are in form, what bytes they have. No condition. -/
import Derived.Test.YtmihbbgojkbaeaaDoorStrC
import Derived.Test.YtmihbbgojkbaeaaDoorHexA
import Derived.Sort.Walk0
set_option linter.unusedVariables false
namespace TreeM
open Go Vc HexM

structure Ent where
  mode : Int
  name : ByteArray
  id : ByteArray
def encE (x : Ent) : List Value := [.int .i64 x.mode, .string x.name, .string x.id]
def s40000 : ByteArray := ⟨#[52, 48, 48, 48, 48]⟩
def s100644 : ByteArray := ⟨#[49, 48, 48, 54, 52, 52]⟩
def s100755 : ByteArray := ⟨#[49, 48, 48, 55, 53, 53]⟩
def s120000 : ByteArray := ⟨#[49, 50, 48, 48, 48, 48]⟩
def s160000 : ByteArray := ⟨#[49, 54, 48, 48, 48, 48]⟩
def modeText (m : Int) : ByteArray := if m = 16384 then s40000 else if m = 33188 then s100644 else if m = 33261 then s100755 else if m = 40960 then s120000 else if m = 57344 then s160000 else ⟨#[]⟩
def textMode (s : ByteArray) : Int := if s = s40000 then 16384 else if s = s100644 then 33188 else if s = s100755 then 33261 else if s = s120000 then 40960 else if s = s160000 then 57344 else 0
theorem modeText_size (m : Int) : (modeText m).size ≤ 6 := by
  unfold modeText
  repeat' split
  all_goals decide
/-- A text of which a slash or a nought is part. -/
def slashed (s : ByteArray) : Bool := s.data.toList.any fun c => [(47 : UInt8), 0].contains c
def nameOK (isGit : ByteArray → Bool) (s : ByteArray) : Bool := decide (s ≠ ⟨#[]⟩) && decide (s.size ≤ 100) && decide (s ≠ ⟨#[46]⟩) && decide (s ≠ ⟨#[46, 46]⟩) && !isGit s && !slashed s
def keyE (x : Ent) : ByteArray := if x.mode = 16384 then x.name ++ ⟨#[47]⟩ else x.name
def klt (x y : Ent) : Bool := Op.bytesLess (keyE x).data.toList (keyE y).data.toList
theorem klt_trans {x y z : Ent} (h : klt x y = true) (h' : klt y z = true) : klt x z = true := by
  unfold klt at h h' ⊢
  rw [Proofs.bytesLess_eq, decide_eq_true_eq] at h h' ⊢
  exact List.lt_trans h h'
section
variable (git : ByteArray → Bool)
def entOK (x : Ent) : Bool := decide (modeText x.mode ≠ ⟨#[]⟩) && nameOK git x.name && isId x.id.data.toList
def okAt (xs : List Ent) (i : Nat) : Bool := match xs[i]? with
  | some x => entOK git x && ((xs.take i).all fun y => decide (y.name ≠ x.name)) && (match i with | 0 => true | j + 1 => match xs[j]? with | some y => klt y x | none => false)
  | none => false
def good (xs : List Ent) : Bool := (List.range xs.length).all (okAt git xs)
def checkE (xs : List Ent) : Int := if 500 < xs.length then 2 else if good git xs = true then 0 else 4
def okR (xs : List Ent) (i : Nat) : Bool := match xs[i]? with
  | some x => entOK git x && (xs.take i).all fun y => decide (y.name ≠ x.name) && klt y x
  | none => false
variable {git : ByteArray → Bool} {xs : List Ent} {i : Nat} {x : Ent}
theorem good_iff : good git xs = true ↔ ∀ i, i < xs.length → okAt git xs i = true := by
  unfold good; rw [List.all_eq_true]
  exact ⟨fun h i hi => h i (List.mem_range.2 hi), fun h i hi => h i (List.mem_range.1 hi)⟩
theorem okAt_iff (hx : xs[i]? = some x) : okAt git xs i = true ↔ entOK git x = true ∧ (∀ j y, j < i → xs[j]? = some y → y.name ≠ x.name) ∧ ∀ y, 0 < i → xs[i - 1]? = some y → klt y x = true := by
  unfold okAt
  rw [hx]
  simp only [Bool.and_eq_true, List.all_eq_true, decide_eq_true_eq]
  constructor
  · rintro ⟨⟨h1, h2⟩, h3⟩
    refine ⟨h1, fun j y hj hy => h2 y (List.mem_of_getElem? (i := j) (by rw [List.getElem?_take, if_pos hj, hy])), fun y hi hy => ?_⟩
    cases i with
    | zero => omega
    | succ j => simp only [Nat.add_sub_cancel] at hy; simp only [hy] at h3; exact h3
  · rintro ⟨h1, h2, h3⟩
    refine ⟨⟨h1, fun y hy => ?_⟩, ?_⟩
    · obtain ⟨j, hj⟩ := List.mem_iff_getElem?.1 hy
      rw [List.getElem?_take] at hj
      split at hj
      · rename_i hji; exact h2 j y hji hj
      · cases hj
    · cases i with
      | zero => rfl
      | succ j =>
        have hjl : j < xs.length := by have := (List.getElem?_eq_some_iff.1 hx).1; omega
        have := h3 xs[j] (by omega) (by simp [List.getElem?_eq_getElem hjl])
        simp only [List.getElem?_eq_getElem hjl]; exact this
theorem okR_iff (hx : xs[i]? = some x) : okR git xs i = true ↔ entOK git x = true ∧ ∀ j y, j < i → xs[j]? = some y → y.name ≠ x.name ∧ klt y x = true := by
  unfold okR
  rw [hx]
  simp only [Bool.and_eq_true, List.all_eq_true, decide_eq_true_eq]
  constructor
  · rintro ⟨h1, h2⟩
    exact ⟨h1, fun j y hj hy => h2 y (List.mem_of_getElem? (i := j) (by rw [List.getElem?_take, if_pos hj, hy]))⟩
  · rintro ⟨h1, h2⟩
    refine ⟨h1, fun y hy => ?_⟩
    obtain ⟨j, hj⟩ := List.mem_iff_getElem?.1 hy
    rw [List.getElem?_take] at hj
    split at hj
    · rename_i hji; exact h2 j y hji hj
    · cases hj
/-- In order from one to the next: in order. -/
theorem chain (h : ∀ j, j < i → okAt git xs j = true) : ∀ d j x y, j + d < i → xs[j]? = some x → xs[j + d]? = some y → 0 < d → klt x y = true
  | 0, _, _, _, _, _, _, h0 => by omega
  | d + 1, j, x, y, hlt, hx, hy, _ => by
    have hl : j + d < xs.length := by have := (List.getElem?_eq_some_iff.1 hy).1; omega
    have h1 := (okAt_iff hy).1 (h (j + (d + 1)) hlt)
    have h2 := h1.2.2 xs[j + d] (by omega) (by rw [show j + (d + 1) - 1 = j + d by omega, List.getElem?_eq_getElem hl])
    by_cases hd : d = 0
    · subst hd
      have hl' : j < xs.length := hl
      have : xs[j + 0] = x := by
        have := List.getElem?_eq_getElem hl'
        rw [hx] at this
        exact (Option.some.inj this).symm
      rw [this] at h2; exact h2
    · exact klt_trans (chain h d j x xs[j + d] (by omega) hx (List.getElem?_eq_getElem hl) (by omega)) h2
theorem ok_both (h : ∀ j, j < i → okAt git xs j = true) (hi : i < xs.length) : okAt git xs i = okR git xs i := by
  have hx := List.getElem?_eq_getElem hi
  rw [Bool.eq_iff_iff, okAt_iff hx, okR_iff hx]
  refine ⟨fun ⟨h1, h2, h3⟩ => ⟨h1, fun j y hj hy => ⟨h2 j y hj hy, ?_⟩⟩, fun ⟨h1, h2⟩ => ⟨h1, fun j y hj hy => (h2 j y hj hy).1, fun y h0 hy => (h2 (i - 1) y (by omega) hy).2⟩⟩
  have hl : i - 1 < xs.length := by omega
  have hlast := h3 xs[i - 1] (by omega) (List.getElem?_eq_getElem hl)
  by_cases hji : j = i - 1
  · subst hji
    have : xs[i - 1] = y := by rw [List.getElem?_eq_getElem hl] at hy; exact Option.some.inj hy
    rw [this] at hlast; exact hlast
  · exact klt_trans (chain h (i - 1 - j) j y xs[i - 1] (by omega) hy (by rw [show j + (i - 1 - j) = i - 1 by omega]; exact List.getElem?_eq_getElem hl) (by omega)) hlast
theorem check_bad (hl : xs.length ≤ 500) (hi : i < xs.length) (h : okAt git xs i = false) : checkE git xs = 4 := by
  unfold checkE
  rw [if_neg (by omega), if_neg]
  intro hg
  rw [good_iff.1 hg i hi] at h; cases h
theorem check_good (hl : xs.length ≤ 500) (h : ∀ j, j < xs.length → okAt git xs j = true) : checkE git xs = 0 := by
  unfold checkE
  rw [if_neg (by omega), if_pos (good_iff.2 h)]
theorem check_ok (h : checkE git xs = 0) : xs.length ≤ 500 ∧ ∀ j, j < xs.length → okAt git xs j = true := by
  unfold checkE at h
  split at h
  · cases h
  · split at h
    · rename_i hl hg; exact ⟨by omega, good_iff.1 hg⟩
    · cases h
end
/-- An entry's bytes. -/
def entB (x : Ent) : List UInt8 := (modeText x.mode).data.toList ++ [32] ++ x.name.data.toList ++ [0] ++ (unhexL x.id.data.toList).getD []
def bytesE (xs : List Ent) : List UInt8 := xs.flatMap entB
end TreeM
