/- The reference's Put, Under, List and Check. Conditions: texts are no longer than memory, lists of at most a million. -/
import Derived.Test.YtmihbbgojkbaeaaDoorSnapK
import Derived.Test.YtmihbbgojkbaeaaDoorSnapH
set_option linter.unusedVariables false
namespace Go.Proofs.YtmihbbgojkbaeaaDoor
open Go Vc Go.Proofs

def putR (s : ByteArray) : Bool → List ByteArray → List ByteArray
  | d, [] => if d = true then [] else [s]
  | d, x :: r => if d = false ∧ x ≠ s ∧ s.data.toList < x.data.toList then s :: x :: putR s true r else x :: putR s (d || decide (x = s)) r
theorem putR_true (s : ByteArray) : ∀ r, putR s true r = r
  | [] => rfl
  | x :: r => by
    rw [putR, if_neg (fun h => by cases h.1), Bool.true_or, putR_true s r]
theorem putR_len (s : ByteArray) : ∀ d r, (putR s d r).length ≤ r.length + 1
  | d, [] => by
    rw [putR]
    split <;> simp
  | d, x :: r => by
    rw [putR]
    split
    · rw [putR_true]; simp
    · have := putR_len s (d || decide (x = s)) r
      simp only [List.length_cons]; omega
theorem putR_rise (s : ByteArray) : ∀ xs : List ByteArray, RiseB xs → RiseB (putR s false xs) ∧ ∀ p, p ∈ putR s false xs ↔ p = s ∨ p ∈ xs
  | [], _ => by
    rw [putR, if_neg (by decide)]
    exact ⟨List.pairwise_singleton _ _, fun p => by simp⟩
  | x :: r, h => by
    obtain ⟨h1, h2⟩ := List.pairwise_cons.1 h
    rw [putR]
    by_cases hx : x = s
    · rw [if_neg (fun h => h.2.1 hx), show (false || decide (x = s)) = true by simp [hx], putR_true]
      exact ⟨h, fun p => by rw [← hx]; simp⟩
    · rw [show (false || decide (x = s)) = false by simp [hx]]
      by_cases hl : s.data.toList < x.data.toList
      · rw [if_pos ⟨rfl, hx, hl⟩, putR_true]
        refine ⟨List.pairwise_cons.2 ⟨fun y hy => ?_, h⟩, fun p => by simp⟩
        rcases List.mem_cons.1 hy with rfl | hy
        · exact hl
        · exact List.lt_trans hl (h1 y hy)
      · rw [if_neg (fun h => hl h.2.2)]
        obtain ⟨h3, h4⟩ := putR_rise s r h2
        have hxs : x.data.toList < s.data.toList := by
          rcases lt_tri x.data.toList s.data.toList with h | h | h
          · exact h
          · exact absurd (bs_ext h) hx
          · exact absurd h hl
        refine ⟨List.pairwise_cons.2 ⟨fun y hy => ?_, h3⟩, fun p => ?_⟩
        · rcases (h4 y).1 hy with rfl | hy
          · exact hxs
          · exact h1 y hy
        · rw [List.mem_cons, h4, List.mem_cons]
          constructor
          · rintro (h | h | h)
            · exact .inr (.inl h)
            · exact .inl h
            · exact .inr (.inr h)
          · rintro (h | h | h)
            · exact .inr (.inl h)
            · exact .inl h
            · exact .inr (.inr h)
theorem rise_eq {a b : List ByteArray} (h1 : RiseB a) (h2 : RiseB b) (h : ∀ p, p ∈ a ↔ p ∈ b) : a = b := by
  have hp : a.Perm b := by
    have n1 : a.Nodup := h1.imp fun h e => by rw [e] at h; exact List.lt_irrefl _ h
    have n2 : b.Nodup := h2.imp fun h e => by rw [e] at h; exact List.lt_irrefl _ h
    exact (List.perm_ext_iff_of_nodup n1 n2).2 h
  refine List.Perm.eq_of_pairwise (le := fun x y : ByteArray => x.data.toList < y.data.toList) ?_ h1 h2 hp
  intro x y _ _ h3 h4
  exact absurd (List.lt_trans h3 h4) (List.lt_irrefl _)
theorem own_lit (w : World) (t : TypeId) : Vc.Own (w.alloc (.cells #[] t)) w.heap.size t ⟨some ⟨w.heap.size, 0, none⟩, 0, 0⟩ [] :=
  ⟨rfl, .inr ⟨w.heap.size, _, rfl, Nat.le_refl _, alloc_new w _, Nat.le_refl _, Nat.zero_le _, rfl, rfl⟩⟩
theorem grow_str {w0 w12 : World} {l : Sl} {out : List ByteArray} (x : ByteArray) (hs : out.length ≤ 1000003) (ho : Vc.Own w12 w0.heap.size T_string l (strV out)) (hf : Fr (fun _ => False) w0 w12) {w13 : World} (h13 : w13 = w12.alloc (.cells #[.string x] 9)) :
    ∃ (w14 : World) (l15 : Sl), (Builtin.append_ #[57, 57] 57 #[.slice l.a l.len l.cap, .slice (some ⟨w12.heap.size, 0, none⟩) 1 1]).run Tryd.prog w13 = .ok (.slice l15.a l15.len l15.cap) w14 ∧ Vc.Own w14 w0.heap.size T_string l15 (strV (out ++ [x])) ∧ Fr (fun _ => False) w0 w14 := by
  obtain ⟨w14, l15, hr14, ho14, hf14, _⟩ := append_one' elString ho (v := .string x) rfl (by simp only [strV, List.length_map, maxLen]; omega) (by simp only [strV, List.length_map]; omega) hf.size h13
  refine ⟨w14, l15, hr14, by simpa [strV] using ho14, hf.trans hf14 fun q hq ⟨z, hz, e⟩ => ?_⟩
  have := (ho.blk hz).1; omega
theorem rput_spec {w : World} {a : Option Addr} {n c : Nat} {xs : List ByteArray} (hr : Reads w a (strV xs)) (hn : xs.length = n) (hl : n ≤ 1000000) (s : ByteArray) : Calls Tryd.prog F_cartularyref07_Put #[.slice a n c, .string s] w fun e w' =>
    ∃ o, e = .returned (.slice o.a o.len o.cap) ∧ Vc.Own w' w.heap.size T_string o (strV (putR s false xs)) ∧ Fr (fun _ => False) w w' := by
  refine vc_cartularyref07_Put_ok (R := fun v w' => ∃ o : Sl, v = .slice o.a o.len o.cap ∧ Vc.Own w' w.heap.size T_string o (strV (putR s false xs)) ∧ Fr (fun _ => False) w w') ?_ (fun v w' ⟨o, h⟩ => ⟨o, by rw [h.1], h.2⟩)
  intro w1 h1
  have hf1 : Fr (fun _ => False) w w1 := by rw [h1]; exact .alloc _ _ _
  have ho1 : Vc.Own w1 w.heap.size T_string ⟨some ⟨w.heap.size, 0, none⟩, 0, 0⟩ (strV []) := by rw [h1]; exact own_lit w _
  clear h1
  refine ⟨fun l b i w' => ∃ (k : Nat) (out : List ByteArray), i = k ∧ k ≤ n ∧ out.length ≤ k + 1 ∧ (b = false → out.length ≤ k) ∧ out ++ putR s b (xs.drop k) = putR s false xs ∧ Vc.Own w' w.heap.size T_string l (strV out) ∧ Fr (fun _ => False) w w', fun _ _ i _ => n - i.toNat, ⟨0, [], rfl, Nat.zero_le _, Nat.zero_le _, fun _ => Nat.le_refl _, rfl, ho1, hf1⟩, ?_⟩
  clear ho1 hf1 w1
  rintro l b i w7 ⟨k, out, rfl, hk, hol, holf, heq, ho, hf⟩
  have e1 : IntKind.i64.wrap ((k : Int) + 1) = ((k + 1 : Nat) : Int) := by rw [wrap_i64 (by omega) (by omega)]; omega
  rw [e1]
  refine ⟨fun hlt => ?_, fun hge => ?_⟩
  · have hlt := of_decide_eq_true hlt
    have hkl : k < xs.length := by omega
    have hx : xs[k]? = some xs[k] := List.getElem?_eq_getElem hkl
    have hdr : xs.drop k = xs[k] :: xs.drop (k + 1) := List.drop_eq_getElem_cons hkl
    generalize xs[k] = x at hx hdr
    obtain ⟨ad, had, hc⟩ := hr k (.string x) (by simp [strV, hx])
    rw [hdr] at heq
    refine ⟨⟨by omega, by omega⟩, ad, had, x, by rw [Int.toNat_natCast, Nat.mul_one]; exact hf.cell hc (by simp), fun d w' => d = (b || decide (x = s)) ∧ w' = w7, ⟨fun h => ⟨?_, rfl⟩, fun h => ⟨?_, rfl⟩⟩, ?_⟩
    · rw [bs_eq] at h
      rw [h, Bool.or_true]
    · rw [bs_eq] at h
      rw [h, Bool.or_false]
    rintro d w12 ⟨hd, hw⟩
    replace hw := hw.symm
    subst hw
    have hno : ∀ (h : ¬ (b = false ∧ x ≠ s ∧ s.data.toList < x.data.toList)) (w19 : World), w19 = w7.alloc (.cells #[.string x] 9) →
        ∃ (w14 : World) (l15 : Sl), (Builtin.append_ #[57, 57] 57 #[.slice l.a l.len l.cap, .slice (some ⟨w7.heap.size, 0, none⟩) 1 1]).run Tryd.prog w19 = .ok (.slice l15.a l15.len l15.cap) w14 ∧
          (∃ (k' : Nat) (out : List ByteArray), ((k + 1 : Nat) : Int) = k' ∧ k' ≤ n ∧ out.length ≤ k' + 1 ∧ (d = false → out.length ≤ k') ∧ out ++ putR s d (xs.drop k') = putR s false xs ∧ Vc.Own w14 w.heap.size T_string l15 (strV out) ∧ Fr (fun _ => False) w w14) := fun h w19 h19 => by
      obtain ⟨w14, l15, hr14, ho14, hf14⟩ := grow_str x (by omega) ho hf h19
      rw [putR, if_neg h, ← hd] at heq
      refine ⟨w14, l15, hr14, k + 1, out ++ [x], rfl, by omega, by simp; omega, fun hdf => ?_, by rw [List.append_assoc]; exact heq, ho14, hf14⟩
      have : b = false := by
        rw [hdf] at hd
        cases b
        · rfl
        · simp at hd
      have := holf this
      simp; omega
    refine ⟨fun h => ⟨fun hgt w13 h13 => ?_, fun hng w19 h19 => ?_⟩, fun h w22 h22 => ?_⟩
    · have h : d = false := by simpa using h
      rw [h] at hd
      have hbf : b = false := by
        cases b
        · rfl
        · simp at hd
      have hxs : x ≠ s := fun e => by rw [e] at hd; simp at hd
      have hlt2 : s.data.toList < x.data.toList := by
        rw [Bool.not_eq_true', Bool.or_eq_false_iff, ByteArray.toList_eq, ByteArray.toList_eq, Proofs.bytesLess_eq] at hgt
        have hgt := of_decide_eq_false hgt.1
        rcases lt_tri x.data.toList s.data.toList with h | h | h
        · exact absurd h hgt
        · exact absurd (bs_ext h) hxs
        · exact h
      rw [putR, if_pos ⟨hbf, hxs, hlt2⟩] at heq
      have hob := holf hbf
      obtain ⟨w14, l15, hr14, ho14, hf14⟩ := grow_str s (by omega) ho hf h13
      refine ⟨w14, l15, hr14, fun w16 h16 => ?_⟩
      obtain ⟨w17, l18, hr17, ho17, hf17⟩ := grow_str x (by simp; omega) ho14 hf14 h16
      exact ⟨w17, l18, hr17, ⟨k + 1, out ++ [s] ++ [x], rfl, by omega, by simp; omega, fun h => (by cases h), by rw [List.append_assoc, List.append_assoc]; exact heq, ho17, hf17⟩, by dsimp only; omega⟩
    · obtain ⟨w20, l21, hr20, hI⟩ := hno (fun hh => by
        rw [Bool.not_eq_false', Bool.or_eq_true, ByteArray.toList_eq, ByteArray.toList_eq, Proofs.bytesLess_eq] at hng
        rcases hng with h1 | h1
        · exact absurd (of_decide_eq_true h1) (List.lt_asymm hh.2.2)
        · exact hh.2.1 (bs_ext (eq_of_beq h1))) w19 h19
      exact ⟨w20, l21, hr20, hI, by dsimp only; omega⟩
    · have h : d = true := by simpa using h
      obtain ⟨w20, l21, hr20, hI⟩ := hno (fun hh => by
        rw [h, hh.1, Bool.false_or] at hd
        exact hh.2.1 (of_decide_eq_true hd.symm)) w22 h22
      exact ⟨w20, l21, hr20, hI, by dsimp only; omega⟩
  · have hge := of_decide_eq_false hge
    have hk' : k = xs.length := by omega
    rw [hk', List.drop_length, putR] at heq
    refine ⟨fun hb w25 h25 => ?_, fun hb => ⟨l, rfl, ?_, hf⟩⟩
    · have hb : b = false := by simpa using hb
      rw [if_neg (by rw [hb]; decide)] at heq
      obtain ⟨w26, l27, hr26, ho26, hf26⟩ := grow_str s (by omega) ho hf h25
      exact ⟨w26, l27, hr26, l27, rfl, by rw [← heq]; exact ho26, hf26⟩
    · have hb : b = true := by simpa using hb
      rw [if_pos hb, List.append_nil] at heq
      rw [← heq]; exact ho
/-- What 'Under' gathers. -/
def rUnder (front : ByteArray) (xs : List FileE) : List ByteArray := xs.foldl (fun o x => if begB x.path front = true then putR x.path false o else o) []
theorem rUnder_snoc (front : ByteArray) (xs : List FileE) (x : FileE) : rUnder front (xs ++ [x]) = if begB x.path front = true then putR x.path false (rUnder front xs) else rUnder front xs := by
  unfold rUnder; rw [List.foldl_append]; rfl
theorem rUnder_rise (front : ByteArray) : ∀ (n : Nat) (xs : List FileE), xs.length = n → (rUnder front xs).length ≤ n ∧ RiseB (rUnder front xs) ∧ ∀ p, p ∈ rUnder front xs ↔ ∃ x ∈ xs, x.path = p ∧ begB p front = true
  | 0, xs, h => by
    rw [List.length_eq_zero_iff.1 h]
    exact ⟨Nat.le_refl _, List.Pairwise.nil, fun p => ⟨fun h => by simp [rUnder] at h, fun ⟨x, hx, _⟩ => by simp at hx⟩⟩
  | n + 1, xs, h => by
    rcases List.eq_nil_or_concat xs with h0 | ⟨vs, q, h0⟩
    · rw [h0] at h; simp at h
    rw [List.concat_eq_append] at h0
    subst h0
    obtain ⟨h0, h1, h2⟩ := rUnder_rise front n vs (by simpa using h)
    rw [rUnder_snoc]
    by_cases hq : begB q.path front = true
    · rw [if_pos hq]
      obtain ⟨h3, h4⟩ := putR_rise q.path _ h1
      have := putR_len q.path false (rUnder front vs)
      refine ⟨by omega, h3, fun p => ?_⟩
      rw [h4, h2]
      constructor
      · rintro (rfl | ⟨x, hx, h5⟩)
        · exact ⟨q, by simp, rfl, hq⟩
        · exact ⟨x, by simp [hx], h5⟩
      · rintro ⟨x, hx, h5, h6⟩
        rcases List.mem_append.1 hx with hx | hx
        · exact .inr ⟨x, hx, h5, h6⟩
        · have : x = q := by simpa using hx
          subst this
          exact .inl h5.symm
    · rw [if_neg hq]
      refine ⟨by omega, h1, fun p => ?_⟩
      rw [h2]
      constructor
      · rintro ⟨x, hx, h5⟩
        exact ⟨x, by simp [hx], h5⟩
      · rintro ⟨x, hx, h5, h6⟩
        rcases List.mem_append.1 hx with hx | hx
        · exact ⟨x, hx, h5, h6⟩
        · have : x = q := by simpa using hx
          subst this
          rw [h5] at hq; exact absurd h6 hq
theorem rUnder_under {xs ys : List FileE} (hp : ys.Perm xs) (hst : ys.Pairwise fun x y => x.path.data.toList < y.path.data.toList) (front : ByteArray) : rUnder front xs = underE ys front := by
  obtain ⟨_, h1, h2⟩ := rUnder_rise front _ xs rfl
  refine rise_eq h1 (under_pair hst front) fun p => ?_
  rw [h2]
  constructor
  · rintro ⟨x, hx, h5, h6⟩
    unfold underE
    exact List.mem_map.2 ⟨x, List.mem_filter.2 ⟨hp.symm.subset hx, by rw [h5]; exact h6⟩, h5⟩
  · intro h
    obtain ⟨h3, y, hy, h4⟩ := under_mem h
    exact ⟨y, hp.subset hy, h4, h3⟩
theorem runder_spec {w : World} {a : Option Addr} {n c : Nat} {xs : List FileE} (hr : ReadsK encF 2 w a xs) (hn : xs.length = n) (hl : n ≤ 1000000) (front : ByteArray) : Calls Tryd.prog F_cartularyref07_Under #[.slice a n c, .string front] w fun e w' =>
    ∃ o, e = .returned (.slice o.a o.len o.cap) ∧ Vc.Own w' w.heap.size T_string o (strV (rUnder front xs)) ∧ Fr (fun _ => False) w w' := by
  refine vc_cartularyref07_Under_ok (R := fun v w' => ∃ o : Sl, v = .slice o.a o.len o.cap ∧ Vc.Own w' w.heap.size T_string o (strV (rUnder front xs)) ∧ Fr (fun _ => False) w w') ?_ (fun v w' ⟨o, h⟩ => ⟨o, by rw [h.1], h.2⟩)
  intro w1 h1
  have hf1 : Fr (fun _ => False) w w1 := by rw [h1]; exact .alloc _ _ _
  have ho1 : Vc.Own w1 w.heap.size T_string ⟨some ⟨w.heap.size, 0, none⟩, 0, 0⟩ (strV []) := by rw [h1]; exact own_lit w _
  clear h1
  refine ⟨fun l i w' => ∃ k : Nat, i = k ∧ k ≤ n ∧ Vc.Own w' w.heap.size T_string l (strV (rUnder front (xs.take k))) ∧ Fr (fun _ => False) w w', fun _ i _ => n - i.toNat, ⟨0, rfl, Nat.zero_le _, ho1, hf1⟩, ?_⟩
  clear ho1 hf1 w1
  rintro l i w6 ⟨k, rfl, hk, ho, hf⟩
  have e1 : IntKind.i64.wrap ((k : Int) + 1) = ((k + 1 : Nat) : Int) := by rw [wrap_i64 (by omega) (by omega)]; omega
  rw [e1]
  refine ⟨fun hlt => ?_, fun hge => ?_⟩
  · have hlt := of_decide_eq_true hlt
    have hkl : k < xs.length := by omega
    have hx : xs[k]? = some xs[k] := List.getElem?_eq_getElem hkl
    generalize xs[k] = x at hx
    have htk : xs.take (k + 1) = xs.take k ++ [x] := by rw [List.take_add_one, hx]; rfl
    have hul := (rUnder_rise front _ (xs.take k) rfl).1
    rw [List.length_take] at hul
    obtain ⟨ad, had, hload⟩ := (hr.keep hf (by simp)).load elF hx
    refine ⟨⟨by omega, by omega⟩, ad, had, x.path, x.data, by rw [Int.toNat_natCast]; exact hload, fun w10 h10 => ?_⟩
    subst h10
    have hfa : Fr (fun _ => False) w6 (w6.alloc (.cells (encF x).toArray T_api_File)) := .alloc _ _ _
    have hbx := boxF_cell w6 x (.refl (fun _ => False) _) (by simp) (j := 0) rfl
    refine ⟨_, boxF_run w6 x, x.path, hbx, (begins_spec x.path front _).mono ?_⟩
    rintro e w14 ⟨rfl, hw⟩
    subst hw
    refine ⟨_, rfl, fun hb => ⟨x.path, hbx, ?_⟩, fun hb => ⟨⟨k + 1, rfl, by omega, ?_, hf.trans' hfa⟩, by dsimp only; omega⟩⟩
    · have ho' := ho.keep hfa (by simp)
      have hol : (rUnder front (xs.take k)).length = l.len := by rw [ho.len]; simp [strV]
      refine (rput_spec ho'.reads hol (by omega) x.path).mono ?_
      rintro e w18 ⟨l19, rfl, ho19, hf19⟩
      refine ⟨l19, rfl, ⟨k + 1, rfl, by omega, ?_, (hf.trans' hfa).trans' hf19⟩, by dsimp only; omega⟩
      rw [htk, rUnder_snoc, if_pos hb]
      exact ho19.mono (hf.trans' hfa).size
    · rw [htk, rUnder_snoc, if_neg (by rw [hb]; decide)]
      exact ho.keep hfa (by simp)
  · have hge := of_decide_eq_false hge
    have hk' : k = xs.length := by omega
    rw [hk', List.take_of_length_le (Nat.le_refl _)] at ho
    exact ⟨l, rfl, ho, hf⟩
end Go.Proofs.YtmihbbgojkbaeaaDoor
