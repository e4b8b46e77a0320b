/- References' names in plain. Plain. -/
import Derived.Test.YtmhlmdnhpfhoeaaGreatDoorSnapS
import Derived.Lib.Index
set_option linter.unusedVariables false
namespace Go.Proofs.YtmhlmdnhpfhoeaaGreatDoor
open Go Vc Go.Proofs

/-- Does t stand somewhere? -/
def hasL (t : List UInt8) : List UInt8 → Bool
  | [] => t.isEmpty
  | c :: r => t.isPrefixOf (c :: r) || hasL t r
theorem hasL_index (t : List UInt8) : ∀ l : List UInt8, decide (0 ≤ Lib.index l t) = hasL t l
  | [] => by
    unfold Lib.index hasL
    cases t.isEmpty <;> rfl
  | c :: r => by
    have ih := hasL_index t r
    have hg := Lib.index_ge r t
    rw [hasL, Lib.index]
    by_cases hp : t.isPrefixOf (c :: r) = true
    · rw [if_pos hp, hp]; rfl
    · rw [if_neg hp, Bool.eq_false_iff.2 hp, Bool.false_or, ← ih]
      by_cases h1 : Lib.index r t = -1
      · rw [if_pos (by rw [h1]; rfl), h1]
      · rw [if_neg (by simpa using h1)]
        exact decide_eq_decide.2 (by omega)
theorem hasL_slash {x y : UInt8} (hx : x ≠ 47) (hy : y ≠ 47) (b : List UInt8) : ∀ a : List UInt8, hasL [x, y] (a ++ 47 :: b) = (hasL [x, y] a || hasL [x, y] b)
  | [] => by
    have h1 : (x == (47 : UInt8)) = false := by simpa using hx
    simp [hasL, List.isPrefixOf, h1]
  | [c] => by
    have h1 : (y == (47 : UInt8)) = false := by simpa using hy
    have h2 : (x == (47 : UInt8)) = false := by simpa using hx
    simp [hasL, List.isPrefixOf, h1, h2]
  | c :: d :: r => by
    have ih := hasL_slash hx hy b (d :: r)
    rw [List.cons_append, hasL, ih]
    conv => rhs; rw [hasL]
    rw [Bool.or_assoc]
    congr 1
theorem hasL_front (t b : List UInt8) (h : hasL t b = true) : ∀ a : List UInt8, hasL t (a ++ b) = true
  | [] => h
  | c :: r => by rw [List.cons_append, hasL, hasL_front t b h r, Bool.or_true]
def sHEAD : ByteArray := ⟨#[72, 69, 65, 68]⟩
def sRefs : ByteArray := ⟨#[114, 101, 102, 115, 47]⟩
def lockL : List UInt8 := [46, 108, 111, 99, 107]
def nbadL : List UInt8 := [32, 126, 94, 58, 63, 42, 91, 92]
def sufL (t l : List UInt8) : Bool := decide (t <:+ l)
def partName (p : List UInt8) : Bool := decide (p.head? ≠ some 46) && !sufL lockL p
/-- Is it a reference's name? -/
def nameB (s : ByteArray) : Bool := decide (s = sHEAD) || (begB s sRefs && cleanB s && !hasL [46, 46] s.data.toList && !hasL [64, 123] s.data.toList && !sufL [46] s.data.toList &&
  !(s.data.toList.any fun c => nbadL.contains c) && (partsL s.data.toList).all partName)
def prL (c : UInt8) : Bool := decide (32 ≤ c.toNat) && decide (c.toNat ≤ 126)
theorem print_list (s : ByteArray) : printB s = s.data.toList.all prL := by
  unfold printB
  rw [Bool.eq_iff_iff, decide_eq_true_eq, List.all_eq_true]
  refine ⟨fun h c hc => ?_, fun h k hk => ?_⟩
  · obtain ⟨k, hk, he⟩ := List.getElem_of_mem hc
    rw [bs_len] at hk
    have := h k hk
    rw [bs_byt hk, he] at this
    unfold prL
    rw [decide_eq_true this.1, decide_eq_true this.2]; rfl
  · have := h _ (List.mem_of_getElem? (bs_get hk))
    unfold prL at this
    rw [toNat_of _ (byt_lt s k), Bool.and_eq_true] at this
    exact ⟨of_decide_eq_true this.1, of_decide_eq_true this.2⟩
/-- What a name is behind 'refs/'. -/
def bodyB (l : List UInt8) : Bool := (partsL l).all (fun p => partOK ⟨p.toArray⟩ && partName p) && l.all prL && !hasL [46, 46] l && !hasL [64, 123] l && !sufL [46] l && !(l.any fun c => nbadL.contains c)
theorem partsApp : ∀ a b : List UInt8, partsL (a ++ 47 :: b) = partsL a ++ partsL b
  | [], b => by
    show partsL (47 :: b) = [] :: partsL b
    rw [partsL, if_pos rfl]
  | c :: a, b => by
    rw [List.cons_append, partsL, partsL, partsApp a b]
    split
    · rfl
    · obtain ⟨h, t, e⟩ := List.exists_cons_of_ne_nil (partsL_ne a)
      rw [e]; rfl
theorem suf_one (c : UInt8) (a b : List UInt8) (hb : b ≠ []) : sufL [c] (a ++ b) = sufL [c] b := by
  unfold sufL
  refine decide_eq_decide.2 ⟨fun h => ?_, fun h => h.trans (List.suffix_append a b)⟩
  rcases List.eq_nil_or_concat b with hn | ⟨r, d, rfl⟩
  · exact absurd hn hb
  · rw [List.concat_eq_append] at *
    obtain ⟨t, ht⟩ := h
    rw [← List.append_assoc] at ht
    have := (List.append_inj' ht rfl).2
    rw [this]
    exact List.suffix_append r [d]
theorem suf_slash (a b : List UInt8) : sufL [46] (a ++ 47 :: b) = sufL [46] b := by
  rw [suf_one _ _ _ (by simp)]
  cases b with
  | nil => decide
  | cons d r => exact suf_one 46 [47] (d :: r) (by simp)
theorem name_refs (a : ByteArray) : nameB (sRefs ++ a) = (decide (a.size ≤ 195) && bodyB a.data.toList) := by
  have hl : (sRefs ++ a).data.toList = [114, 101, 102, 115] ++ 47 :: a.data.toList := by rw [bs_app]; rfl
  have hH : sRefs ++ a ≠ sHEAD := fun e => by
    have := congrArg (fun s : ByteArray => s.data.toList.head?) e
    simp only [hl] at this
    revert this
    simp [sHEAD]
  have hp : partsL ([114, 101, 102, 115] ++ 47 :: a.data.toList) = [114, 101, 102, 115] :: partsL a.data.toList := by
    rw [partsApp]; rfl
  have hsz : (sRefs ++ a).size = 5 + a.size := by rw [ByteArray.size_append]; rfl
  have hbeg : begB (sRefs ++ a) sRefs = true := by
    unfold begB
    rw [hl]
    exact decide_eq_true ⟨a.data.toList, rfl⟩
  have hc : cleanB (sRefs ++ a) = (decide (a.size ≤ 195) && (partsL a.data.toList).all (fun p => partOK ⟨p.toArray⟩) && a.data.toList.all prL) := by
    unfold cleanB
    have h2 : ((bsm ([114, 101, 102, 115] :: partsL a.data.toList)).all partOK) = (partsL a.data.toList).all (fun p => partOK ⟨p.toArray⟩) := by
      rw [bsm, List.all_map, List.all_cons]
      have : (partOK ∘ fun x : List UInt8 => (⟨x.toArray⟩ : ByteArray)) [114, 101, 102, 115] = true := by decide
      rw [this, Bool.true_and]
      rfl
    have h3 : ([114, 101, 102, 115] ++ 47 :: a.data.toList).all prL = a.data.toList.all prL := rfl
    have h5 : decide (5 + a.size ≤ 200) = decide (a.size ≤ 195) := decide_eq_decide.2 (by omega)
    rw [partsF_L _ _ (Nat.le_refl _), print_list, hsz, hl, hp, h2, h3, h5]
  have hd1 : hasL [46, 46] ([114, 101, 102, 115] ++ 47 :: a.data.toList) = hasL [46, 46] a.data.toList := by
    rw [hasL_slash (by decide) (by decide)]; rfl
  have hd2 : hasL [64, 123] ([114, 101, 102, 115] ++ 47 :: a.data.toList) = hasL [64, 123] a.data.toList := by
    rw [hasL_slash (by decide) (by decide)]; rfl
  have hany : (([114, 101, 102, 115] ++ 47 :: a.data.toList).any fun c => nbadL.contains c) = a.data.toList.any fun c => nbadL.contains c := by
    rw [List.any_append, List.any_cons]; rfl
  have hall : ([114, 101, 102, 115] :: partsL a.data.toList).all partName = (partsL a.data.toList).all partName := by
    rw [List.all_cons]
    have : partName [114, 101, 102, 115] = true := by decide
    rw [this]; rfl
  unfold nameB bodyB
  rw [decide_eq_false hH, hbeg, hc, hl, hd1, hd2, suf_slash, hany, hp, hall, Bool.false_or, Bool.true_and]
  have hsplit : ((partsL a.data.toList).all fun p => partOK ⟨p.toArray⟩ && partName p) = ((partsL a.data.toList).all (fun p => partOK ⟨p.toArray⟩) && (partsL a.data.toList).all partName) := by
    rw [Bool.eq_iff_iff]
    simp only [List.all_eq_true, Bool.and_eq_true]
    exact ⟨fun h => ⟨fun p hp => (h p hp).1, fun p hp => (h p hp).2⟩, fun h p hp => ⟨h.1 p hp, h.2 p hp⟩⟩
  rw [hsplit]
  cases decide (a.size ≤ 195) <;> cases (partsL a.data.toList).all (fun p => partOK ⟨p.toArray⟩) <;> cases a.data.toList.all prL <;> cases hasL [46, 46] a.data.toList <;> cases hasL [64, 123] a.data.toList <;> cases sufL [46] a.data.toList <;> cases (a.data.toList.any fun c => nbadL.contains c) <;> cases (partsL a.data.toList).all partName <;> rfl
theorem body_join {a b : List UInt8} (ha : bodyB a = true) (hb : bodyB b = true) : bodyB (a ++ 47 :: b) = true := by
  unfold bodyB at *
  simp only [Bool.and_eq_true] at *
  obtain ⟨⟨⟨⟨⟨a1, a2⟩, a3⟩, a4⟩, a5⟩, a6⟩ := ha
  obtain ⟨⟨⟨⟨⟨b1, b2⟩, b3⟩, b4⟩, b5⟩, b6⟩ := hb
  rw [Bool.not_eq_true'] at *
  refine ⟨⟨⟨⟨⟨?_, ?_⟩, ?_⟩, ?_⟩, ?_⟩, ?_⟩
  · rw [partsApp, List.all_append, a1, b1]; rfl
  · rw [List.all_append, List.all_cons, a2, b2]; rfl
  · rw [hasL_slash (by decide) (by decide), a3, b3]; rfl
  · rw [hasL_slash (by decide) (by decide), a4, b4]; rfl
  · rw [suf_slash, b5]; rfl
  · rw [List.any_append, List.any_cons, a6, b6]; rfl
theorem body_dots (l : List UInt8) : bodyB (l ++ [46, 46]) = false := by
  unfold bodyB
  rw [hasL_front [46, 46] [46, 46] (by decide) l]
  simp
theorem parts_last : ∀ (t l : List UInt8), (47 : UInt8) ∉ t → ∃ init last, partsL l = init ++ [last] ∧ partsL (l ++ t) = init ++ [last ++ t]
  | [], l, _ => by
    rcases List.eq_nil_or_concat (partsL l) with h | ⟨init, last, h⟩
    · exact absurd h (partsL_ne l)
    · rw [List.concat_eq_append] at h
      exact ⟨init, last, h, by rw [List.append_nil, List.append_nil]; exact h⟩
  | c :: t, l, h => by
    obtain ⟨i1, l1, e1, e2⟩ := partsL_snoc (b := c) (fun e => h (by simp [e])) l
    obtain ⟨i2, l2, e3, e4⟩ := parts_last t (l ++ [c]) (fun hm => h (by simp [hm]))
    rw [e2] at e3
    obtain ⟨rfl, h2⟩ := List.append_inj' e3 rfl
    have h2 : l1 ++ [c] = l2 := by simpa using h2
    subst h2
    exact ⟨i1, l1, e1, by simpa using e4⟩
theorem body_lock (l : List UInt8) : bodyB (l ++ lockL) = false := by
  obtain ⟨init, last, _, e⟩ := parts_last lockL l (by decide)
  unfold bodyB
  rw [e, List.all_append]
  have : partName (last ++ lockL) = false := by
    unfold partName sufL
    rw [decide_eq_true (List.suffix_append last lockL)]
    simp
  simp [this]
/-- The statement on two names put together. -/
theorem name_join {a b : ByteArray} (ha : nameB (sRefs ++ a) = true) (hb : nameB (sRefs ++ b) = true) :
    nameB (sRefs ++ a ++ ⟨#[47]⟩ ++ b) = decide (a.size + b.size + 6 ≤ 200) ∧ nameB (sRefs ++ a ++ ⟨#[46, 46]⟩) = false ∧ nameB (sRefs ++ a ++ ⟨#[46, 108, 111, 99, 107]⟩) = false := by
  rw [name_refs, Bool.and_eq_true] at ha hb
  have e1 : sRefs ++ a ++ ⟨#[47]⟩ ++ b = sRefs ++ (a ++ ⟨#[47]⟩ ++ b) := by simp only [ByteArray.append_assoc]
  have e2 : sRefs ++ a ++ ⟨#[46, 46]⟩ = sRefs ++ (a ++ ⟨#[46, 46]⟩) := by simp only [ByteArray.append_assoc]
  have e3 : sRefs ++ a ++ ⟨#[46, 108, 111, 99, 107]⟩ = sRefs ++ (a ++ ⟨#[46, 108, 111, 99, 107]⟩) := by simp only [ByteArray.append_assoc]
  rw [e1, e2, e3, name_refs, name_refs, name_refs]
  have l1 : (a ++ ⟨#[47]⟩ ++ b : ByteArray).data.toList = a.data.toList ++ 47 :: b.data.toList := by rw [bs_app, bs_app]; simp
  have l2 : (a ++ ⟨#[46, 46]⟩ : ByteArray).data.toList = a.data.toList ++ [46, 46] := bs_app _ _
  have l3 : (a ++ ⟨#[46, 108, 111, 99, 107]⟩ : ByteArray).data.toList = a.data.toList ++ lockL := bs_app _ _
  rw [l1, l2, l3, body_join ha.2 hb.2, body_dots, body_lock, Bool.and_false, Bool.and_false, Bool.and_true]
  refine ⟨decide_eq_decide.2 ?_, rfl, rfl⟩
  have h1 : (⟨#[47]⟩ : ByteArray).size = 1 := rfl
  rw [ByteArray.size_append, ByteArray.size_append, h1]
  omega
end Go.Proofs.YtmhlmdnhpfhoeaaGreatDoor
