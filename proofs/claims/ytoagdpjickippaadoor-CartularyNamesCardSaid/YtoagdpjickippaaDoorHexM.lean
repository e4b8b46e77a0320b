/- Digits of bytes in plain; append of what is new. No condition. -/
import Derived.Test.YtoagdpjickippaaDoorVcStr
import Derived.Test.YtoagdpjickippaaDoorElB
set_option linter.unusedVariables false
namespace Vc
open Go
theorem append_new {P : Program} {t e : TypeId} {z : Value} {bytes : Nat} {w : World} {base : Nat} {l : Sl} {xs : List Value} (el : El P t e z bytes) (h : Own w base e l xs) {news : List Value} (h1 : ∀ u ∈ news, u.oneCell' = true)
    (hm : xs.length + news.length ≤ maxLen) (hb : (xs.length + news.length) * bytes ≤ 140737488355328) (hbase : base ≤ w.heap.size) {w2 : World} (hw2 : w2 = w.alloc (.cells news.toArray e)) {m : Nat} (hlen : news.length = m) :
    ∃ w' l', (Builtin.append_ #[t, t] t #[.slice l.a l.len l.cap, .slice (some ⟨w.heap.size, 0, none⟩) m m]).run P w2 = .ok (.slice l'.a l'.len l'.cap) w' ∧ Own w' base e l' (xs ++ news) ∧
      Fr (At l) w w' ∧ Since w l l' := by
  subst hw2
  have h2 : Own (w.alloc (.cells news.toArray e)) base e l xs := h.keep (.alloc (fun _ => False) _ _) (by simp)
  obtain ⟨w', l', hr, ho, hf, hs⟩ := append_all' el h2 (src := some ⟨w.heap.size, 0, none⟩) m (news := news) (fun i v hv => ⟨_, rfl, by rw [add_lit, Nat.zero_add, cell_blk (alloc_new w _)]; simpa using hv⟩) h1 hm hb (by simp; omega) hlen
  refine ⟨w', l', hr, ho, (Fr.alloc _ _ _).trans' hf, fun y hy => ?_⟩
  rcases hs y hy with hx | hn
  · exact .inl hx
  · simp only [World.alloc, Array.size_push] at hn
    exact .inr (by omega)
end Vc
namespace HexM
/-- A digit. -/
def hx (n : Nat) : Nat := if n < 10 then 48 + n else 87 + n
theorem hx_lt {n : Nat} (h : n < 16) : hx n < 256 := by unfold hx; split <;> omega
def hexL (l : List UInt8) : List UInt8 := l.flatMap fun c => [UInt8.ofNat (hx (c.toNat / 16)), UInt8.ofNat (hx (c.toNat % 16))]
theorem hexL_snoc (l : List UInt8) (c : UInt8) : hexL (l ++ [c]) = hexL l ++ [UInt8.ofNat (hx (c.toNat / 16)), UInt8.ofNat (hx (c.toNat % 16))] := by simp [hexL]
theorem hexL_length (l : List UInt8) : (hexL l).length = 2 * l.length := by
  induction l with
  | nil => rfl
  | cons c l ih => simp only [hexL, List.flatMap_cons, List.length_append, List.length_cons, List.length_nil] at ih ⊢; omega
/-- A digit's number. -/
def dg (c : Nat) : Option Nat := if 48 ≤ c ∧ c ≤ 57 then some (c - 48) else if 97 ≤ c ∧ c ≤ 102 then some (c - 87) else none
theorem dg_lt {c n : Nat} (h : dg c = some n) : n < 16 := by
  unfold dg at h
  split at h
  · cases h; omega
  · split at h
    · cases h; omega
    · cases h
theorem dg_hx {n : Nat} (h : n < 16) : dg (hx n) = some n := by
  unfold hx dg
  split
  · rw [if_pos (by omega)]; congr 1; omega
  · rw [if_neg (by omega), if_pos (by omega)]; congr 1; omega
theorem hx_dg {c n : Nat} (h : dg c = some n) : hx n = c := by
  unfold dg at h
  unfold hx
  split at h
  · cases h; rw [if_pos (by omega)]; omega
  · split at h
    · cases h; rw [if_neg (by omega)]; omega
    · cases h
def unhexL : List UInt8 → Option (List UInt8)
  | [] => some []
  | [_] => none
  | a :: b :: r => match dg a.toNat, dg b.toNat, unhexL r with
    | some x, some y, some l => some (UInt8.ofNat (16 * x + y) :: l)
    | _, _, _ => none
theorem unhexL_len : ∀ (l r : List UInt8), unhexL l = some r → l.length = 2 * r.length
  | [], r, h => by simp only [unhexL, Option.some.injEq] at h; subst h; rfl
  | [_], r, h => by simp [unhexL] at h
  | a :: b :: l, r, h => by
    simp only [unhexL] at h
    split at h
    · rename_i x y q h1 h2 h3
      cases h
      have := unhexL_len l q h3
      simp only [List.length_cons]; omega
    · cases h
theorem unhex_hex : ∀ l : List UInt8, unhexL (hexL l) = some l
  | [] => rfl
  | c :: l => by
    have hc := c.toNat_lt
    have h1 : (UInt8.ofNat (hx (c.toNat / 16))).toNat = hx (c.toNat / 16) := by have := hx_lt (n := c.toNat / 16) (by omega); simp; omega
    have h2 : (UInt8.ofNat (hx (c.toNat % 16))).toNat = hx (c.toNat % 16) := by have := hx_lt (n := c.toNat % 16) (by omega); simp; omega
    have : hexL (c :: l) = UInt8.ofNat (hx (c.toNat / 16)) :: UInt8.ofNat (hx (c.toNat % 16)) :: hexL l := rfl
    rw [this, unhexL, h1, h2, dg_hx (by omega), dg_hx (by omega), unhex_hex l]
    simp only [Option.some.injEq, List.cons.injEq, and_true]
    rw [show 16 * (c.toNat / 16) + c.toNat % 16 = c.toNat by omega, UInt8.ofNat_toNat]
theorem hex_unhex : ∀ (l r : List UInt8), unhexL l = some r → hexL r = l
  | [], r, h => by simp only [unhexL, Option.some.injEq] at h; subst h; rfl
  | [_], r, h => by simp [unhexL] at h
  | a :: b :: l, r, h => by
    simp only [unhexL] at h
    split at h
    · rename_i x y q h1 h2 h3
      cases h
      have hx1 := dg_lt h1
      have hy1 := dg_lt h2
      have e : (UInt8.ofNat (16 * x + y)).toNat = 16 * x + y := by simp; omega
      show UInt8.ofNat (hx ((UInt8.ofNat (16 * x + y)).toNat / 16)) :: UInt8.ofNat (hx ((UInt8.ofNat (16 * x + y)).toNat % 16)) :: hexL q = _
      rw [e, show (16 * x + y) / 16 = x by omega, show (16 * x + y) % 16 = y by omega, hx_dg h1, hx_dg h2, UInt8.ofNat_toNat, UInt8.ofNat_toNat, hex_unhex l q h3]
    · cases h
/-- All are digits. -/
def digits (l : List UInt8) : Bool := l.all fun c => (dg c.toNat).isSome
theorem unhexL_iff : ∀ l : List UInt8, (unhexL l).isSome = (digits l && l.length % 2 == 0)
  | [] => rfl
  | [a] => by simp [unhexL]
  | a :: b :: l => by
    have ih := unhexL_iff l
    have hl : (a :: b :: l).length % 2 = l.length % 2 := by simp only [List.length_cons]; omega
    rw [hl]
    simp only [unhexL, digits, List.all_cons] at ih ⊢
    cases h1 : dg a.toNat <;> cases h2 : dg b.toNat <;> simp
    cases h3 : unhexL l <;> rw [h3] at ih <;> simp at ih ⊢ <;> simpa using ih
/-- An object's name. -/
def isId (l : List UInt8) : Bool := (unhexL l).isSome && l.length == 40
theorem unhexL_take : ∀ (n : Nat) (l : List UInt8) (r : List UInt8), unhexL (l.take (2 * n)) = some r → 2 * n ≤ l.length → ∀ a b : UInt8, l[2 * n]? = some a → l[2 * n + 1]? = some b →
    unhexL (l.take (2 * (n + 1))) = (match dg a.toNat, dg b.toNat with | some x, some y => some (r ++ [UInt8.ofNat (16 * x + y)]) | _, _ => none)
  | 0, l, r, h, _, a, b, ha, hb => by
    match l, ha, hb with
    | a' :: b' :: l, ha, hb =>
      simp only [Nat.mul_zero, List.getElem?_cons_zero, Option.some.injEq] at ha
      simp only [Nat.mul_zero, Nat.zero_add, List.getElem?_cons_succ, List.getElem?_cons_zero, Option.some.injEq] at hb
      subst ha; subst hb
      simp only [Nat.mul_zero, List.take_zero, unhexL, Option.some.injEq] at h
      subst h
      show unhexL [a', b'] = _
      cases h1 : dg a'.toNat <;> cases h2 : dg b'.toNat <;> simp [unhexL, h1, h2]
    | [], ha, _ => simp at ha
    | [_], _, hb => simp at hb
  | n + 1, l, r, h, hl, a, b, ha, hb => by
    match l, hl with
    | a' :: b' :: l, hl =>
      have ha' : l[2 * n]? = some a := by simpa [show 2 * (n + 1) = 2 * n + 1 + 1 by omega] using ha
      have hb' : l[2 * n + 1]? = some b := by simpa [show 2 * (n + 1) + 1 = 2 * n + 1 + 1 + 1 by omega] using hb
      have ht : ∀ k, (a' :: b' :: l).take (2 * (k + 1)) = a' :: b' :: l.take (2 * k) := fun k => by rw [show 2 * (k + 1) = 2 * k + 1 + 1 by omega]; rfl
      rw [ht] at h ⊢
      simp only [unhexL] at h
      split at h
      · rename_i x y q h1 h2 h3
        cases h
        have ih := unhexL_take n l q h3 (by simp only [List.length_cons] at hl; omega) a b ha' hb'
        simp only [unhexL, h1, h2, ih]
        cases dg a.toNat <;> cases dg b.toNat <;> simp
      · cases h
    | [], hl => simp at hl
    | [_], hl => simp only [List.length_cons, List.length_nil] at hl; omega
theorem unhexL_bad : ∀ (n : Nat) (l : List UInt8) (a : UInt8), l[n]? = some a → dg a.toNat = none → unhexL l = none := fun n l a h hd => by
  have := unhexL_iff l
  cases hu : unhexL l with
  | none => rfl
  | some r =>
    exfalso
    rw [hu] at this
    simp only [Option.isSome_some, digits] at this
    have h2 := (Bool.and_eq_true _ _ ▸ this.symm).1
    rw [List.all_eq_true] at h2
    have := h2 a (List.mem_of_getElem? h)
    rw [hd] at this; cases this
end HexM
