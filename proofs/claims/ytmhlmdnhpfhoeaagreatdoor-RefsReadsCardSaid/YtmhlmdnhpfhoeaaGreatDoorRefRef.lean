/- The reference of references: Open, Lookup, Peeled, Names say the same. Conditions: as named. -/
import Derived.Test.YtmhlmdnhpfhoeaaGreatDoorStrA
import Derived.Test.YtmhlmdnhpfhoeaaGreatDoorSnapX
import Derived.Test.YtmhlmdnhpfhoeaaGreatDoorRef07P
import Derived.Test.YtmhlmdnhpfhoeaaGreatDoorRiseS
import Derived.Test.YtmhlmdnhpfhoeaaGreatDoorRefST
import Derived.Test.YtmhlmdnhpfhoeaaGreatDoorShortS
import Derived.Test.YtmhlmdnhpfhoeaaGreatDoorHexD
import Derived.Test.YtmhlmdnhpfhoeaaGreatDoorRef16P
set_option linter.unusedVariables false
namespace Go.Proofs.YtmhlmdnhpfhoeaaGreatDoor
open Go Vc Go.Proofs

/-- A text cut at a byte that it has says its parts. -/
theorem cut_join {s : ByteArray} {c : UInt8} (h : (cutS s c).2.2 = true) : s.data.toList = (cutS s c).1.data.toList ++ c :: (cutS s c).2.1.data.toList := by
  unfold cutS at h ⊢
  rcases fnd_cases s c with ⟨h1, _⟩ | ⟨i, h1, hi, hb, _⟩
  · rw [h1, if_pos rfl] at h; cases h
  · rw [h1, if_neg (by omega), Int.toNat_natCast]
    simp only
    rw [bs_head, bs_tail]
    have hlt : i < s.data.toList.length := by rw [bs_len]; exact hi
    have hc : s.data.toList[i] = c := by
      have := bs_byt hi
      rw [hb] at this
      exact (UInt8.toNat_inj.1 this).symm
    rw [← hc, ← List.drop_eq_getElem_cons hlt, List.take_append_drop]
theorem cut_of {s : ByteArray} {c : UInt8} {a b : List UInt8} (h : s.data.toList = a ++ c :: b) (hn : c ∉ a) : cutS s c = (⟨a.toArray⟩, ⟨b.toArray⟩, true) := by
  have hsz : s.size = a.length + b.length + 1 := by rw [← bs_len, h]; simp; omega
  have hat : Lib.indexByte s.data.toList c = (a.length : Int) := by
    refine fnd_at (by omega) ?_ fun k hk he => hn ?_
    · have := bs_get (s := s) (i := a.length) (by omega)
      rw [h, List.getElem?_append_right (Nat.le_refl _), Nat.sub_self, List.getElem?_cons_zero] at this
      have := Option.some.inj this
      have h2 := congrArg UInt8.toNat this
      rw [toNat_of _ (byt_lt _ _)] at h2
      exact h2.symm
    · have := bs_get (s := s) (i := k) (by omega)
      rw [h, List.getElem?_append_left hk, he, UInt8.ofNat_toNat] at this
      exact List.mem_of_getElem? this
  unfold cutS
  rw [hat, if_neg (by omega), Int.toNat_natCast]
  have e1 : s.extract 0 a.length = ⟨a.toArray⟩ := bs_ext (by rw [bs_head, h, bs_mk, List.take_left])
  have e2 : s.extract (a.length + 1) s.size = ⟨b.toArray⟩ := bs_ext (by rw [bs_tail, h, bs_mk, ← List.drop_drop, List.drop_left]; rfl)
  rw [e1, e2]
end Go.Proofs.YtmhlmdnhpfhoeaaGreatDoor
namespace Go.Proofs.YtmhlmdnhpfhoeaaGreatDoor
open Go Vc Go.Proofs

theorem rget_spec {w : World} {a : Option Addr} {n c : Nat} {xs : List FileE} (hr : ReadsK encF 2 w a xs) (hn : xs.length = n) (hl : n ≤ 1000000) (p : ByteArray) : Calls Tryz.prog F_cartularyref07_Get #[.slice a n c, .string p] w fun e w' =>
    e = .returned (.tuple #[.string (getE xs p).1, .bool (decide ((getE xs p).2 = 0))]) ∧ Fr (fun _ => False) w w' := by
  refine vc_cartularyref07_Get_ok (R := fun v w' => v = .tuple #[.string (getE xs p).1, .bool (decide ((getE xs p).2 = 0))] ∧ Fr (fun _ => False) w w') ?_ (fun v w' h => ⟨by rw [h.1], h.2⟩)
  refine ⟨fun i w' => ∃ k : Nat, i = k ∧ k ≤ n ∧ (∀ x ∈ xs.take k, x.path ≠ p) ∧ Fr (fun _ => False) w w', fun i _ => n - i.toNat, ⟨0, rfl, Nat.zero_le _, fun x hx => by simp at hx, .refl _ _⟩, ?_⟩
  rintro i w4 ⟨k, rfl, hk, hno, hf⟩
  have e1 : IntKind.i64.wrap ((k : Int) + 1) = ((k + 1 : Nat) : Int) := by rw [wrap_i64 (by omega) (by omega)]; omega
  rw [e1]
  refine ⟨fun hlt => ?_, fun hge => ?_⟩
  · have hlt := of_decide_eq_true hlt
    have hkl : k < xs.length := by omega
    have hx : xs[k]? = some xs[k] := List.getElem?_eq_getElem hkl
    generalize xs[k] = x at hx
    obtain ⟨ad, had, hload⟩ := (hr.keep hf (by simp)).load elF hx
    refine ⟨⟨by omega, by omega⟩, ad, had, x.path, x.data, by rw [Int.toNat_natCast]; exact hload, fun w8 h8 => ?_⟩
    subst h8
    have hfa := hf.trans' (Fr.alloc (fun _ => False) w4 (.cells (encF x).toArray T_api_File))
    refine ⟨_, boxF_run w4 x, x.path, boxF_cell w4 x (.refl (fun _ => False) _) (by simp) rfl, fun he => ⟨x.data, boxF_cell w4 x (.refl (fun _ => False) _) (by simp) (j := 1) rfl, ?_, hfa⟩, fun he => ⟨⟨k + 1, rfl, by omega, fun y hy => ?_, hfa⟩, by dsimp only; omega⟩⟩
    · rw [bs_eq] at he
      have he := of_decide_eq_true he
      have hfd : xs.find? (fun x => decide (x.path = p)) = some x := by
        have hsp : xs = xs.take k ++ (x :: xs.drop (k + 1)) := by
          have := List.drop_eq_getElem_cons hkl
          rw [(List.getElem?_eq_some_iff.1 hx).2] at this
          rw [← this, List.take_append_drop]
        rw [hsp, List.find?_append, List.find?_eq_none.2 (fun y hy => by simpa using hno y hy)]
        simp [he]
      unfold getE
      rw [hfd]; rfl
    · rw [List.take_add_one, hx] at hy
      rcases List.mem_append.1 hy with hy | hy
      · exact hno y hy
      · simp only [Option.toList, List.mem_cons, List.mem_nil_iff, or_false] at hy
        subst hy
        rw [bs_eq] at he
        exact of_decide_eq_false he
  · have hge := of_decide_eq_false hge
    have hk' : k = xs.length := by omega
    rw [hk', List.take_of_length_le (Nat.le_refl _)] at hno
    unfold getE
    rw [List.find?_eq_none.2 (fun y hy => by simpa using hno y hy)]
    exact ⟨rfl, hf⟩
end Go.Proofs.YtmhlmdnhpfhoeaaGreatDoor
namespace Go.Proofs.YtmhlmdnhpfhoeaaGreatDoor
open Go Vc Go.Proofs

theorem rput_spec {w : World} {a : Option Addr} {n c : Nat} {xs : List ByteArray} (hr : Reads w a (strV xs)) (hn : xs.length = n) (hl : n ≤ 1000000) (s : ByteArray) : Calls Tryz.prog F_cartularyref07_Put #[.slice a n c, .string s] w fun e w' =>
    ∃ o, e = .returned (.slice o.a o.len o.cap) ∧ Vc.Own w' w.heap.size T_string o (strV (putR s false xs)) ∧ Fr (fun _ => False) w w' := by
  refine vc_cartularyref07_Put_ok (R := fun v w' => ∃ o : Sl, v = .slice o.a o.len o.cap ∧ Vc.Own w' w.heap.size T_string o (strV (putR s false xs)) ∧ Fr (fun _ => False) w w') ?_ (fun v w' ⟨o, h⟩ => ⟨o, by rw [h.1], h.2⟩)
  intro w1 h1
  have hf1 : Fr (fun _ => False) w w1 := by rw [h1]; exact .alloc _ _ _
  have ho1 : Vc.Own w1 w.heap.size T_string ⟨some ⟨w.heap.size, 0, none⟩, 0, 0⟩ (strV []) := by rw [h1]; exact own_lit w _
  clear h1
  refine ⟨fun l b i w' => ∃ (k : Nat) (out : List ByteArray), i = k ∧ k ≤ n ∧ out.length ≤ k + 1 ∧ (b = false → out.length ≤ k) ∧ out ++ putR s b (xs.drop k) = putR s false xs ∧ Vc.Own w' w.heap.size T_string l (strV out) ∧ Fr (fun _ => False) w w', fun _ _ i _ => n - i.toNat, ⟨0, [], rfl, Nat.zero_le _, Nat.zero_le _, fun _ => Nat.le_refl _, rfl, ho1, hf1⟩, ?_⟩
  clear ho1 hf1 w1
  rintro l b i w7 ⟨k, out, rfl, hk, hol, holf, heq, ho, hf⟩
  have e1 : IntKind.i64.wrap ((k : Int) + 1) = ((k + 1 : Nat) : Int) := by rw [wrap_i64 (by omega) (by omega)]; omega
  rw [e1]
  refine ⟨fun hlt => ?_, fun hge => ?_⟩
  · have hlt := of_decide_eq_true hlt
    have hkl : k < xs.length := by omega
    have hx : xs[k]? = some xs[k] := List.getElem?_eq_getElem hkl
    have hdr : xs.drop k = xs[k] :: xs.drop (k + 1) := List.drop_eq_getElem_cons hkl
    generalize xs[k] = x at hx hdr
    obtain ⟨ad, had, hc⟩ := hr k (.string x) (by simp [strV, hx])
    rw [hdr] at heq
    refine ⟨⟨by omega, by omega⟩, ad, had, x, by rw [Int.toNat_natCast, Nat.mul_one]; exact hf.cell hc (by simp), fun d w' => d = (b || decide (x = s)) ∧ w' = w7, ⟨fun h => ⟨?_, rfl⟩, fun h => ⟨?_, rfl⟩⟩, ?_⟩
    · rw [bs_eq] at h
      rw [h, Bool.or_true]
    · rw [bs_eq] at h
      rw [h, Bool.or_false]
    rintro d w12 ⟨hd, hw⟩
    replace hw := hw.symm
    subst hw
    have hno : ∀ (h : ¬ (b = false ∧ x ≠ s ∧ s.data.toList < x.data.toList)) (w19 : World), w19 = w7.alloc (.cells #[.string x] 9) →
        ∃ (w14 : World) (l15 : Sl), (Builtin.append_ #[37, 37] 37 #[.slice l.a l.len l.cap, .slice (some ⟨w7.heap.size, 0, none⟩) 1 1]).run Tryz.prog w19 = .ok (.slice l15.a l15.len l15.cap) w14 ∧
          (∃ (k' : Nat) (out : List ByteArray), ((k + 1 : Nat) : Int) = k' ∧ k' ≤ n ∧ out.length ≤ k' + 1 ∧ (d = false → out.length ≤ k') ∧ out ++ putR s d (xs.drop k') = putR s false xs ∧ Vc.Own w14 w.heap.size T_string l15 (strV out) ∧ Fr (fun _ => False) w w14) := fun h w19 h19 => by
      obtain ⟨w14, l15, hr14, ho14, hf14⟩ := grow_str x (by omega) ho hf h19
      rw [putR, if_neg h, ← hd] at heq
      refine ⟨w14, l15, hr14, k + 1, out ++ [x], rfl, by omega, by simp; omega, fun hdf => ?_, by rw [List.append_assoc]; exact heq, ho14, hf14⟩
      have : b = false := by
        rw [hdf] at hd
        cases b
        · rfl
        · simp at hd
      have := holf this
      simp; omega
    refine ⟨fun h => ⟨fun hgt w13 h13 => ?_, fun hng w19 h19 => ?_⟩, fun h w22 h22 => ?_⟩
    · have h : d = false := by simpa using h
      rw [h] at hd
      have hbf : b = false := by
        cases b
        · rfl
        · simp at hd
      have hxs : x ≠ s := fun e => by rw [e] at hd; simp at hd
      have hlt2 : s.data.toList < x.data.toList := by
        rw [Bool.not_eq_true', Bool.or_eq_false_iff, ByteArray.toList_eq, ByteArray.toList_eq, Proofs.bytesLess_eq] at hgt
        have hgt := of_decide_eq_false hgt.1
        rcases lt_tri x.data.toList s.data.toList with h | h | h
        · exact absurd h hgt
        · exact absurd (bs_ext h) hxs
        · exact h
      rw [putR, if_pos ⟨hbf, hxs, hlt2⟩] at heq
      have hob := holf hbf
      obtain ⟨w14, l15, hr14, ho14, hf14⟩ := grow_str s (by omega) ho hf h13
      refine ⟨w14, l15, hr14, fun w16 h16 => ?_⟩
      obtain ⟨w17, l18, hr17, ho17, hf17⟩ := grow_str x (by simp; omega) ho14 hf14 h16
      exact ⟨w17, l18, hr17, ⟨k + 1, out ++ [s] ++ [x], rfl, by omega, by simp; omega, fun h => (by cases h), by rw [List.append_assoc, List.append_assoc]; exact heq, ho17, hf17⟩, by dsimp only; omega⟩
    · obtain ⟨w20, l21, hr20, hI⟩ := hno (fun hh => by
        rw [Bool.not_eq_false', Bool.or_eq_true, ByteArray.toList_eq, ByteArray.toList_eq, Proofs.bytesLess_eq] at hng
        rcases hng with h1 | h1
        · exact absurd (of_decide_eq_true h1) (List.lt_asymm hh.2.2)
        · exact hh.2.1 (bs_ext (eq_of_beq h1))) w19 h19
      exact ⟨w20, l21, hr20, hI, by dsimp only; omega⟩
    · have h : d = true := by simpa using h
      obtain ⟨w20, l21, hr20, hI⟩ := hno (fun hh => by
        rw [h, hh.1, Bool.false_or] at hd
        exact hh.2.1 (of_decide_eq_true hd.symm)) w22 h22
      exact ⟨w20, l21, hr20, hI, by dsimp only; omega⟩
  · have hge := of_decide_eq_false hge
    have hk' : k = xs.length := by omega
    rw [hk', List.drop_length, putR] at heq
    refine ⟨fun hb w25 h25 => ?_, fun hb => ⟨l, rfl, ?_, hf⟩⟩
    · have hb : b = false := by simpa using hb
      rw [if_neg (by rw [hb]; decide)] at heq
      obtain ⟨w26, l27, hr26, ho26, hf26⟩ := grow_str s (by omega) ho hf h25
      exact ⟨w26, l27, hr26, l27, rfl, by rw [← heq]; exact ho26, hf26⟩
    · have hb : b = true := by simpa using hb
      rw [if_pos hb, List.append_nil] at heq
      rw [← heq]; exact ho
theorem runder_spec {w : World} {a : Option Addr} {n c : Nat} {xs : List FileE} (hr : ReadsK encF 2 w a xs) (hn : xs.length = n) (hl : n ≤ 1000000) (front : ByteArray) : Calls Tryz.prog F_cartularyref07_Under #[.slice a n c, .string front] w fun e w' =>
    ∃ o, e = .returned (.slice o.a o.len o.cap) ∧ Vc.Own w' w.heap.size T_string o (strV (rUnder front xs)) ∧ Fr (fun _ => False) w w' := by
  refine vc_cartularyref07_Under_ok (R := fun v w' => ∃ o : Sl, v = .slice o.a o.len o.cap ∧ Vc.Own w' w.heap.size T_string o (strV (rUnder front xs)) ∧ Fr (fun _ => False) w w') ?_ (fun v w' ⟨o, h⟩ => ⟨o, by rw [h.1], h.2⟩)
  intro w1 h1
  have hf1 : Fr (fun _ => False) w w1 := by rw [h1]; exact .alloc _ _ _
  have ho1 : Vc.Own w1 w.heap.size T_string ⟨some ⟨w.heap.size, 0, none⟩, 0, 0⟩ (strV []) := by rw [h1]; exact own_lit w _
  clear h1
  refine ⟨fun l i w' => ∃ k : Nat, i = k ∧ k ≤ n ∧ Vc.Own w' w.heap.size T_string l (strV (rUnder front (xs.take k))) ∧ Fr (fun _ => False) w w', fun _ i _ => n - i.toNat, ⟨0, rfl, Nat.zero_le _, ho1, hf1⟩, ?_⟩
  clear ho1 hf1 w1
  rintro l i w6 ⟨k, rfl, hk, ho, hf⟩
  have e1 : IntKind.i64.wrap ((k : Int) + 1) = ((k + 1 : Nat) : Int) := by rw [wrap_i64 (by omega) (by omega)]; omega
  rw [e1]
  refine ⟨fun hlt => ?_, fun hge => ?_⟩
  · have hlt := of_decide_eq_true hlt
    have hkl : k < xs.length := by omega
    have hx : xs[k]? = some xs[k] := List.getElem?_eq_getElem hkl
    generalize xs[k] = x at hx
    have htk : xs.take (k + 1) = xs.take k ++ [x] := by rw [List.take_add_one, hx]; rfl
    have hul := (rUnder_rise front _ (xs.take k) rfl).1
    rw [List.length_take] at hul
    obtain ⟨ad, had, hload⟩ := (hr.keep hf (by simp)).load elF hx
    refine ⟨⟨by omega, by omega⟩, ad, had, x.path, x.data, by rw [Int.toNat_natCast]; exact hload, fun w10 h10 => ?_⟩
    subst h10
    have hfa : Fr (fun _ => False) w6 (w6.alloc (.cells (encF x).toArray T_api_File)) := .alloc _ _ _
    have hbx := boxF_cell w6 x (.refl (fun _ => False) _) (by simp) (j := 0) rfl
    refine ⟨_, boxF_run w6 x, x.path, hbx, (begins_spec x.path front _).mono ?_⟩
    rintro e w14 ⟨rfl, hw⟩
    subst hw
    refine ⟨_, rfl, fun hb => ⟨x.path, hbx, ?_⟩, fun hb => ⟨⟨k + 1, rfl, by omega, ?_, hf.trans' hfa⟩, by dsimp only; omega⟩⟩
    · have ho' := ho.keep hfa (by simp)
      have hol : (rUnder front (xs.take k)).length = l.len := by rw [ho.len]; simp [strV]
      refine (rput_spec ho'.reads hol (by omega) x.path).mono ?_
      rintro e w18 ⟨l19, rfl, ho19, hf19⟩
      refine ⟨l19, rfl, ⟨k + 1, rfl, by omega, ?_, (hf.trans' hfa).trans' hf19⟩, by dsimp only; omega⟩
      rw [htk, rUnder_snoc, if_pos hb]
      exact ho19.mono (hf.trans' hfa).size
    · rw [htk, rUnder_snoc, if_neg (by rw [hb]; decide)]
      exact ho.keep hfa (by simp)
  · have hge := of_decide_eq_false hge
    have hk' : k = xs.length := by omega
    rw [hk', List.take_of_length_le (Nat.le_refl _)] at ho
    exact ⟨l, rfl, ho, hf⟩
theorem same07_spec {w : World} {a b : Option Addr} {n m c d : Nat} {xs ys : List ByteArray} (hx : Reads w a (strV xs)) (hy : Reads w b (strV ys)) (hn : xs.length = n) (hm : ys.length = m) (hl : n ≤ 1000000) : Calls Tryz.prog F_cartularyref07_Same #[.slice a n c, .slice b m d] w fun e w' => (∃ r : Bool, e = .returned (.bool r) ∧ (r = true ↔ xs = ys)) ∧ Drew w w' := by
  refine vc_cartularyref07_Same_ok (R := fun v w' => (∃ r : Bool, v = .bool r ∧ (r = true ↔ xs = ys)) ∧ Drew w w') ?_ (fun v w' ⟨⟨r, h1, h2⟩, h3⟩ => ⟨⟨r, by rw [h1], h2⟩, h3⟩)
  refine ⟨fun h => ⟨⟨false, rfl, fun h => (by cases h), fun e => ?_⟩, .refl _⟩, fun h => ?_⟩
  · rw [← hn, ← hm, e] at h; simp at h
  have hnm : n = m := by
    have : ((n : Int) != (m : Int)) = false := h
    have : (n : Int) = m := by simpa using this
    omega
  refine ⟨fun i w' => ∃ k : Nat, i = k ∧ k ≤ n ∧ xs.take k = ys.take k ∧ Drew w w', fun i _ => n - i.toNat, ⟨0, rfl, Nat.zero_le _, rfl, .refl _⟩, ?_⟩
  rintro i w4 ⟨k, rfl, hk, heq, d4⟩
  have e1 : IntKind.i64.wrap ((k : Int) + 1) = ((k + 1 : Nat) : Int) := by rw [wrap_i64 (by omega) (by omega)]; omega
  rw [e1]
  refine ⟨fun hlt => ?_, fun hge => ⟨⟨true, rfl, fun _ => ?_, fun _ => rfl⟩, d4⟩⟩
  · have hlt := of_decide_eq_true hlt
    have h1 : xs[k]? = some xs[k] := List.getElem?_eq_getElem (by omega)
    have h2 : ys[k]? = some ys[k] := List.getElem?_eq_getElem (by omega)
    generalize xs[k] = x at h1
    generalize ys[k] = y at h2
    have fd : Fr (fun _ => False) w w4 := .drew _ d4
    obtain ⟨ad, had, hc⟩ := hx k (.string x) (by simp [strV, h1])
    obtain ⟨bd, hbd, hc'⟩ := hy k (.string y) (by simp [strV, h2])
    refine ⟨⟨by omega, by omega⟩, ad, had, x, by rw [Int.toNat_natCast, Nat.mul_one]; exact fd.cell hc (by simp), ⟨by omega, by omega⟩, bd, hbd, y, by rw [Int.toNat_natCast, Nat.mul_one]; exact fd.cell hc' (by simp), fun w9 d9 => ⟨fun h => ⟨⟨false, rfl, fun h => (by cases h), fun e => ?_⟩, d4.trans d9⟩, fun h => ⟨⟨k + 1, rfl, by omega, ?_, d4.trans d9⟩, by dsimp only; omega⟩⟩⟩
    · rw [e, h2] at h1
      cases h1
      rw [bs_eq] at h; simp at h
    · rw [bs_eq] at h
      have h : x = y := by simpa using h
      rw [List.take_add_one, List.take_add_one, heq, h1, h2, h]
  · have hge := of_decide_eq_false hge
    have hk' : k = n := by omega
    rw [hk', List.take_of_length_le (by omega), List.take_of_length_le (by omega)] at heq
    exact heq
end Go.Proofs.YtmhlmdnhpfhoeaaGreatDoor
namespace Go.Proofs.YtmhlmdnhpfhoeaaGreatDoor
open Go Vc HexM Go.Proofs

theorem total_of' (k : Nat) : ∀ xs : List FileE, (∀ x ∈ xs, x.data.size ≤ k) → totalF xs ≤ k * xs.length
  | [], _ => Nat.zero_le _
  | x :: r, h => by
    have h1 := total_of' k r fun y hy => h y (.tail _ hy)
    have h2 := h x (.head _)
    unfold totalF at h1 ⊢
    rw [List.map_cons, List.sum_cons, List.length_cons, Nat.mul_succ]; omega
theorem shortF_facts' {xs : List FileE} {m N : Nat} (hb : ∀ x ∈ xs, x.path.size ≤ N ∧ x.data.size ≤ N) : (shortF xs m).length ≤ m ∧ (∀ x ∈ shortF xs m, x.path.size ≤ N) ∧ (∀ x ∈ shortF xs m, x.data.size ≤ 3000) := by
  unfold shortF
  refine ⟨by rw [List.length_map, List.length_take]; omega, fun x hx => ?_, fun x hx => ?_⟩
  · obtain ⟨y, hy, rfl⟩ := List.mem_map.1 hx
    exact (hb y (List.mem_of_mem_take hy)).1
  · obtain ⟨y, hy, rfl⟩ := List.mem_map.1 hx
    exact (fewB_size y.data 3000).1
/-- Paths that stand once: what is found hangs on no order. -/
theorem find_perm {ys zs : List FileE} (hp : ys.Perm zs) (hu : ∀ x ∈ ys, ∀ y ∈ ys, x.path = y.path → x = y) (p : ByteArray) : getE ys p = getE zs p := by
  have key : ys.find? (fun x => decide (x.path = p)) = zs.find? (fun x => decide (x.path = p)) := by
    cases h1 : ys.find? (fun x => decide (x.path = p)) with
    | none =>
      rw [List.find?_eq_none] at h1
      exact (List.find?_eq_none.2 fun x hx => h1 x (hp.symm.subset hx)).symm
    | some x =>
      have hx := List.mem_of_find?_eq_some h1
      have hxp : x.path = p := by simpa using List.find?_some h1
      cases h2 : zs.find? (fun x => decide (x.path = p)) with
      | none =>
        rw [List.find?_eq_none] at h2
        exact absurd (decide_eq_true hxp) (h2 x (hp.subset hx))
      | some y =>
        have hy := hp.symm.subset (List.mem_of_find?_eq_some h2)
        have hyp : y.path = p := by simpa using List.find?_some h2
        rw [hu x hx y hy (hxp.trans hyp.symm)]
  unfold getE
  rw [key]
theorem strict_uniq {ys : List FileE} (h : ys.Pairwise fun x y => x.path.data.toList < y.path.data.toList) : ∀ x ∈ ys, ∀ y ∈ ys, x.path = y.path → x = y := by
  intro x hx y hy he
  obtain ⟨i, hi, rfl⟩ := List.getElem_of_mem hx
  obtain ⟨j, hj, rfl⟩ := List.getElem_of_mem hy
  rcases Nat.lt_trichotomy i j with h1 | h1 | h1
  · have := (List.pairwise_iff_getElem.1 h) i j hi hj h1
    rw [he] at this; exact absurd this (List.lt_irrefl _)
  · subst h1; rfl
  · have := (List.pairwise_iff_getElem.1 h) j i hj hi h1
    rw [he] at this; exact absurd this (List.lt_irrefl _)
theorem getE_snoc {a : List FileE} {x : FileE} {p : ByteArray} (h : x.path ≠ p) : getE (a ++ [x]) p = getE a p := by
  have : (a ++ [x]).find? (fun x => decide (x.path = p)) = a.find? (fun x => decide (x.path = p)) := by
    rw [List.find?_append]
    have : [x].find? (fun x => decide (x.path = p)) = none := by simp [h]
    rw [this, Option.or_none]
  unfold getE
  rw [this]
theorem getE_none {a : List FileE} {p : ByteArray} (h : ∀ x ∈ a, x.path ≠ p) : getE a p = (⟨#[]⟩, 7) := by
  have : a.find? (fun x => decide (x.path = p)) = none := List.find?_eq_none.2 fun x hx => by simpa using h x hx
  unfold getE
  rw [this]
theorem getE_last {a : List FileE} {x : FileE} (h : ∀ y ∈ a, y.path ≠ x.path) : getE (a ++ [x]) x.path = (x.data, 0) := by
  have : (a ++ [x]).find? (fun y => decide (y.path = x.path)) = some x := by
    rw [List.find?_append, List.find?_eq_none.2 fun y hy => by simpa using h y hy]
    simp
  unfold getE
  rw [this]
theorem openE_same {ys zs : List FileE} (h : getE ys sPacked = getE zs sPacked) : openE ys = openE zs := by unfold openE; rw [h]
theorem name_packed {n : ByteArray} (h : nameB n = true) : n ≠ sPacked := fun e => by
  subst e
  unfold nameB at h
  rw [show decide (sPacked = sHEAD) = false by decide, show begB sPacked sRefs = false by decide] at h
  simp at h
theorem id_file {ys : List FileE} {n id : ByteArray} (hi : isId id.data.toList = true) (hg : getE ys n = (id ++ ⟨#[10]⟩, 0)) : fileE ys n = (id, ⟨#[]⟩, 0) := by
  have hs : sufL [10] (id ++ ⟨#[10]⟩).data.toList = true := by
    rw [bs_app]; exact decide_eq_true (List.suffix_append _ _)
  have hc : cutSuf (id ++ ⟨#[10]⟩) ⟨#[10]⟩ = id := by
    unfold cutSuf
    rw [if_pos hs]
    refine bs_ext ?_
    rw [bs_head, bs_app, ByteArray.size_append]
    have : id.size + ByteArray.size ⟨#[10]⟩ - ByteArray.size ⟨#[10]⟩ = id.data.toList.length := by rw [bs_len]; exact Nat.add_sub_cancel _ _
    rw [this, List.take_left']
    rfl
  unfold fileE
  rw [hg]
  simp only
  rw [if_neg (by decide), hc, if_pos ⟨hi, hs⟩]
/-- What New hands back, in two cases. -/
theorem newR_two {w w' : World} {xs : List FileE} {v : Value} (h : NewR w xs v w') : Fr (fun _ => False) w w' ∧ ∃ (p : Option Addr) (n : Int), v = .tuple #[.pointer p, .int .i64 n] ∧
    ((p = none ∧ n ≠ 0) ∨ (n = 0 ∧ ∃ b l ys, p = some ⟨b, 0, none⟩ ∧ (w.heap.size ≤ b ∧ ∀ x, l.a = some x → w.heap.size ≤ x.block) ∧ ys.Perm xs ∧ Rising ys ∧ NewOK ys ∧ IsSnap w' b l ys (totalF xs))) := by
  obtain ⟨hf, h⟩ := h
  refine ⟨hf, ?_⟩
  rcases h with ⟨rfl, _⟩ | ⟨_, _, ys, hp, hris, h⟩
  · exact ⟨_, _, rfl, .inl ⟨rfl, by decide⟩⟩
  rcases h with ⟨_, rfl⟩ | ⟨hok, b, l, rfl, hbl, hS⟩
  · exact ⟨_, _, rfl, .inl ⟨rfl, by decide⟩⟩
  · exact ⟨_, _, rfl, .inr ⟨rfl, b, l, ys, rfl, hbl, hp, hris, hok, hS⟩⟩
theorem snap_keepX {w w1 : World} {b : Nat} {l : Sl} {xs : List FileE} {size : Int} {X : Nat → Prop} (h : IsSnap w b l xs size) (hf : Fr X w w1) (hb : ¬ X b) (hl : ∀ x, l.a = some x → ¬ X x.block) : IsSnap w1 b l xs size :=
  ⟨hf.cell h.files hb, hf.cell h.size hb, h.len, h.reads.keep hf hl, h.small⟩
theorem id_full {id : ByteArray} (h : isId id.data.toList = true) : id.size = 40 := by
  unfold isId at h
  rw [Bool.and_eq_true] at h
  have := eq_of_beq h.2
  rw [bs_len] at this; exact this
end Go.Proofs.YtmhlmdnhpfhoeaaGreatDoor
namespace Go.Proofs.YtmhlmdnhpfhoeaaGreatDoor
open Go Vc HexM Go.Proofs

def encR3 (r : RowE) : List Value := [.string r.1, .string r.2.1, .string r.2.2]
theorem elR3 : ElK encR3 3 Tryz.prog T_S_cartularyref16_Row T_cartularyref16_Row (.agg #[.string ⟨#[]⟩, .string ⟨#[]⟩, .string ⟨#[]⟩]) 48 :=
  ⟨by kernel_rfl, by kernel_rfl, rfl, by decide, by kernel_rfl, fun _ => rfl, fun x u hu => by
    simp only [encR3, List.mem_cons, List.mem_nil_iff, or_false] at hu
    rcases hu with rfl | rfl | rfl <;> rfl⟩
theorem boxR_run (w : World) (x : RowE) : (storeVar T_cartularyref16_Row ⟨w.heap.size, 0, none⟩ (.agg #[.string x.1, .string x.2.1, .string x.2.2])).run Tryz.prog (w.alloc (.cells #[.string ⟨#[]⟩, .string ⟨#[]⟩, .string ⟨#[]⟩] T_cartularyref16_Row)) = .ok () (w.alloc (.cells (encR3 x).toArray T_cartularyref16_Row)) :=
  run_storeVar_new w T_cartularyref16_Row _ _ (by kernel_rfl) rfl (by simp [Value.oneCell'])
theorem boxR_cell (w : World) (x : RowE) {w' : World} {X : Nat → Prop} (hf : Fr X (w.alloc (.cells (encR3 x).toArray T_cartularyref16_Row)) w') (hx : ¬ X w.heap.size) {j : Nat} {v : Value} (hv : (encR3 x)[j]? = some v) : w'.cell? ⟨w.heap.size, j, none⟩ = some v :=
  hf.cell (by rw [cell_blk (alloc_new w _)]; simpa using hv) hx
theorem rlook_last {init : List RowE} {k : ByteArray} {x : ByteArray × ByteArray} (h : k ∉ RKeys init) : rlook (init ++ [(k, x)]) k = some x ∧ ∀ v, rupd (init ++ [(k, x)]) k v = init ++ [(k, v)] := by
  induction init with
  | nil => exact ⟨by simp [rlook], fun v => by simp [rupd]⟩
  | cons r rs ih =>
    have h1 : r.1 ≠ k := fun e => h (by rw [← e]; exact .head _)
    obtain ⟨i1, i2⟩ := ih fun hh => h (.tail _ hh)
    refine ⟨?_, fun v => ?_⟩
    · show rlook (r :: (rs ++ _)) k = _
      rw [rlook, if_neg h1, i1]
    · show rupd (r :: (rs ++ _)) k v = _
      rw [rupd, if_neg h1, i2]; rfl
theorem rupd_new {rows : List RowE} {k : ByteArray} {v : ByteArray × ByteArray} (h : k ∉ RKeys rows) : rupd rows k v = rows ++ [(k, v)] := by
  induction rows with
  | nil => rfl
  | cons r rs ih =>
    have h1 : r.1 ≠ k := fun e => h (by rw [← e]; exact .head _)
    show rupd (r :: rs) k v = _
    rw [rupd, if_neg h1, ih fun hh => h (.tail _ hh)]; rfl
theorem id_nosp {l : List UInt8} (h : isId l = true) : (32 : UInt8) ∉ l := fun hm => by
  unfold isId at h
  rw [Bool.and_eq_true, unhexL_iff, Bool.and_eq_true] at h
  have := List.all_eq_true.1 h.1.1 32 hm
  revert this; decide
/-- A line that begins with a name and a space. -/
theorem line_id (s : ByteArray) : (41 ≤ s.size ∧ byt s 40 = 32 ∧ isId (s.extract 0 40).data.toList = true ∧ cutS s 32 = (s.extract 0 40, s.extract 41 s.size, true)) ∨
    (¬ (41 ≤ s.size ∧ byt s 40 = 32 ∧ isId (s.extract 0 40).data.toList = true) ∧ ((cutS s 32).2.2 = false ∨ isId (cutS s 32).1.data.toList = false)) := by
  by_cases h : 41 ≤ s.size ∧ byt s 40 = 32 ∧ isId (s.extract 0 40).data.toList = true
  · obtain ⟨h1, h2, h3⟩ := h
    refine .inl ⟨h1, h2, h3, ?_⟩
    have hno := id_nosp h3
    rw [bs_head] at hno
    have hlt : 40 < s.data.toList.length := by rw [bs_len]; omega
    have hc : s.data.toList[40] = 32 := by
      have := bs_byt (s := s) (i := 40) (by omega)
      rw [h2] at this
      exact UInt8.toNat_inj.1 (show s.data.toList[40].toNat = (32 : UInt8).toNat from this.symm)
    have hs : s.data.toList = s.data.toList.take 40 ++ 32 :: s.data.toList.drop 41 := by
      rw [← hc, ← List.drop_eq_getElem_cons hlt, List.take_append_drop]
    rw [cut_of hs hno]
    congr 1
    · exact bs_ext (by rw [bs_mk, bs_head])
    · congr 1
      exact bs_ext (by rw [bs_mk, bs_tail])
  · refine .inr ⟨h, ?_⟩
    cases hk : (cutS s 32).2.2 with
    | false => exact .inl rfl
    | true =>
      refine .inr ?_
      cases hi : isId (cutS s 32).1.data.toList with
      | false => rfl
      | true =>
        exfalso
        have hj := cut_join hk
        have hl := id_full hi
        have hll : (cutS s 32).1.data.toList.length = 40 := by rw [bs_len]; exact hl
        have hsz : s.data.toList.length = 40 + (1 + (cutS s 32).2.1.data.toList.length) := by rw [hj, List.length_append, hll, List.length_cons]; omega
        rw [bs_len] at hsz
        refine h ⟨by omega, ?_, ?_⟩
        · unfold byt
          rw [hj, List.getElem?_append_right (by omega), hll]; rfl
        · rw [bs_head, hj, List.take_left' hll]; exact hi
def LastOK (rows : List RowE) (last : ByteArray) : Prop := (rows = [] ∧ last = ⟨#[]⟩) ∨ ∃ init x, rows = init ++ [(last, x)]
theorem ropen_spec {w : World} {a : Option Addr} {n c : Nat} {xs ys : List FileE} (hr : ReadsK encF 2 w a xs) (hn : xs.length = n) (hl : n ≤ 1000000) (hp : ys.Perm xs) (hst : ys.Pairwise fun x y => x.path.data.toList < y.path.data.toList) (hd : ∀ x ∈ ys, x.data.size ≤ 140737488355328) :
    Calls Tryz.prog F_cartularyref16_Open #[.slice a n c] w fun e w' => Fr (fun _ => False) w w' ∧ match openE ys with
      | .error m => e = .returned (.tuple #[.slice none 0 0, .int .i64 m])
      | .ok rows => ∃ o : Sl, e = .returned (.tuple #[.slice o.a o.len o.cap, .int .i64 0]) ∧ OwnK encR3 3 w' w.heap.size T_cartularyref16_Row o rows := by
  refine vc_cartularyref16_Open_ok (R := fun v w' => Fr (fun _ => False) w w' ∧ match openE ys with
      | .error m => v = .tuple #[.slice none 0 0, .int .i64 m]
      | .ok rows => ∃ o : Sl, v = .tuple #[.slice o.a o.len o.cap, .int .i64 0] ∧ OwnK encR3 3 w' w.heap.size T_cartularyref16_Row o rows) ?_ (fun v w' ⟨h1, h2⟩ => ⟨h1, by
        revert h2
        cases openE ys with
        | error n => exact fun h => by rw [h]
        | ok rows => exact fun ⟨o, h, r⟩ => ⟨o, by rw [h], r⟩⟩)
  refine (rget_spec hr hn hl sPacked).mono ?_
  rintro e w2 ⟨rfl, hf2⟩
  rw [← find_perm hp (strict_uniq hst)]
  have hdl := get_le hd sPacked
  have hopen : openE ys = if (getE ys sPacked).2 ≠ 0 then .ok [] else openF ((getE ys sPacked).1.size + 1) (getE ys sPacked).1 [] ⟨#[]⟩ := rfl
  generalize (getE ys sPacked).1 = text at hdl hopen ⊢
  generalize (getE ys sPacked).2 = er at hopen ⊢
  refine ⟨_, _, rfl, fun w5 h5 => ?_⟩
  have hf5 : Fr (fun _ => False) w2 w5 := by rw [h5]; exact .alloc _ _ _
  have ho5 : OwnK encR3 3 w5 w.heap.size T_cartularyref16_Row ⟨some ⟨w2.heap.size, 0, none⟩, 0, 0⟩ [] := by
    rw [h5]; exact (OwnK.empty w2 T_cartularyref16_Row).mono hf2.size
  have bad : ∀ {w' : World} {k : Int}, Fr (fun _ => False) w w' → openE ys = .error k →
      Fr (fun _ => False) w w' ∧ match openE ys with
      | .error m => Value.tuple #[.slice none 0 0, .int .i64 k] = .tuple #[.slice none 0 0, .int .i64 m]
      | .ok rows => ∃ o : Sl, Value.tuple #[.slice none 0 0, .int .i64 k] = .tuple #[.slice o.a o.len o.cap, .int .i64 0] ∧ OwnK encR3 3 w' w.heap.size T_cartularyref16_Row o rows := fun hf ho => ⟨hf, by rw [ho]⟩
  refine ⟨fun s l w' => ∃ rows, Fr (fun _ => False) w w' ∧ OwnK encR3 3 w' w.heap.size T_cartularyref16_Row l rows ∧ s.size ≤ 140737488355328 ∧ ((er ≠ 0 ∧ openE ys = .ok rows) ∨ (er = 0 ∧ RowsOK rows ∧ ∃ f last, openE ys = openF (f + 1) s rows last ∧ s.size ≤ f ∧ LastOK rows last)), fun s _ _ => s.size,
    ⟨[], hf2.trans' hf5, ho5, hdl, ?_⟩, ?_⟩
  · by_cases he : er = 0
    · rw [if_neg (fun h => h he)] at hopen
      exact .inr ⟨he, ⟨by simp [RKeys], by simp [RKeys], by simp⟩, _, _, hopen, Nat.le_refl _, .inl ⟨rfl, rfl⟩⟩
    · rw [if_pos he] at hopen
      exact .inl ⟨he, hopen⟩
  clear hopen ho5 hf5 h5 w5 hdl
  rintro s l w10 ⟨rows, hf10, ho10, hsz, hcase⟩
  refine ⟨fun he => ?_, fun he => ?_⟩
  rotate_left
  · have he : er ≠ 0 := by simpa using he
    rcases hcase with ⟨_, ho⟩ | ⟨h0, _⟩
    · exact ⟨hf10, by rw [ho]; exact ⟨l, rfl, ho10⟩⟩
    · exact absurd h0 he
  have he : er = 0 := by simpa using he
  obtain ⟨_, hrok, f, last, ho, hsf, hlast⟩ := hcase.resolve_left fun h => h.1 he
  rw [openF] at ho
  rw [bs_eq]
  refine ⟨fun hne => ?_, fun heq => ?_⟩
  rotate_left
  · have heq : s = ⟨#[]⟩ := by simpa using heq
    rw [if_pos heq] at ho
    exact ⟨hf10, by rw [ho]; exact ⟨l, rfl, ho10⟩⟩
  have hne : s ≠ ⟨#[]⟩ := by simpa using hne
  have hpos : 0 < s.size := by
    rcases Nat.eq_zero_or_pos s.size with h0 | h0
    · exact absurd (bs_empty.2 h0) hne
    · exact h0
  rw [if_neg hne] at ho
  obtain ⟨f, rfl⟩ : ∃ g, f = g + 1 := ⟨f - 1, by omega⟩
  refine (find_spec s hsz 10 (by decide) w10).mono ?_
  rintro e w12 ⟨rfl, hw⟩
  replace hw := hw.symm
  subst hw
  rw [show UInt8.ofNat 10 = 10 from rfl]
  rcases fnd_cases s 10 with ⟨h1, _⟩ | ⟨i, h1, hi, hb10, _⟩
  · refine ⟨_, rfl, fun _ => bad hf10 (by rw [ho, if_pos (by unfold cutS; rw [if_pos h1])]), fun h => ?_⟩
    rw [h1] at h; cases h
  have hcut : cutS s 10 = (s.extract 0 i, s.extract (i + 1) s.size, true) := by
    unfold cutS
    rw [h1, if_neg (by omega), Int.toNat_natCast]
  rw [hcut] at ho
  rw [h1]
  simp only [Bool.true_eq_false, if_false] at ho
  have e1 : IntKind.i64.wrap ((i : Int) + 1) = ((i + 1 : Nat) : Int) := by rw [wrap_i64 (by omega) (by omega)]; omega
  refine ⟨(i : Int), rfl, fun h => (by have := of_decide_eq_true h; omega), fun _ => ?_⟩
  rw [e1, Int.toNat_natCast, Int.toNat_natCast]
  have hls : (s.extract 0 i).size ≤ 140737488355328 := by rw [ByteArray.size_extract]; omega
  have hrs : (s.extract (i + 1) s.size).size < s.size := by rw [ByteArray.size_extract]; omega
  generalize s.extract 0 i = line at ho hls ⊢
  generalize s.extract (i + 1) s.size = rest at ho hrs ⊢
  refine ⟨⟨by omega, by omega⟩, ⟨by omega, by omega⟩, (begins_spec line ⟨#[35]⟩ w10).mono ?_⟩
  rintro e w15 ⟨rfl, hw⟩
  replace hw := hw.symm
  subst hw
  refine ⟨_, rfl, fun hb => ⟨⟨rows, hf10, ho10, by omega, .inr ⟨he, hrok, f, last, by rw [ho, if_pos hb], by omega, hlast⟩⟩, hrs⟩, fun hb => (begins_spec line ⟨#[94]⟩ w10).mono ?_⟩
  rw [if_neg (by rw [hb]; decide)] at ho
  rintro e w18 ⟨rfl, hw⟩
  replace hw := hw.symm
  subst hw
  have hll : l.len = rows.length := ho10.len
  have hfew := hrok.few
  refine ⟨_, rfl, fun hb => ?_, fun hb => ?_⟩
  · rw [if_pos hb] at ho
    have h1 : 1 ≤ line.size := by have := beg_le hb; exact this
    have hpre : cutPre line ⟨#[94]⟩ = line.extract 1 line.size := by unfold cutPre; rw [if_pos hb]; rfl
    rw [hpre] at ho
    rcases hlast with ⟨rfl, rfl⟩ | ⟨init, x, rfl⟩
    · refine ⟨fun _ => bad hf10 (by rw [ho]; rfl), fun h => ?_⟩
      rw [hll] at h; cases h
    have hkey : last ∉ RKeys init := by
      have := hrok.once
      rw [RKeys, List.map_append] at this
      intro hm
      exact (List.nodup_append.1 this).2.2 last hm last (by simp) rfl
    obtain ⟨q1, q2⟩ := rlook_last (x := x) hkey
    rw [q1] at ho
    simp only at ho
    have hil : l.len = init.length + 1 := by rw [hll, List.length_append]; rfl
    have e2 : IntKind.i64.wrap ((l.len : Int) - 1) = ((init.length : Nat) : Int) := by rw [wrap_i64 (by omega) (by omega)]; omega
    rw [e2, Int.toNat_natCast]
    have hat : (init ++ [(last, x)])[init.length]? = some (last, x) := by simp
    obtain ⟨ad, had, hrd⟩ := (ho10.reads fun _ => rfl) init.length (last, x) hat
    refine ⟨fun h => absurd (eq_of_beq h) (by omega), fun _ => ⟨⟨by omega, by omega⟩, ad, had, x.2, hrd 2 (.string x.2) rfl, fun hxp => bad hf10 ?_, fun hxp => ⟨⟨by omega, by omega⟩, (rid_spec _ (by rw [ByteArray.size_extract]; omega) w10).mono ?_⟩⟩⟩
    · rw [bs_eq] at hxp
      rw [ho, if_pos (by simpa using hxp)]
    rw [bs_eq] at hxp
    rw [if_neg (by simpa using hxp)] at ho
    rw [show Int.toNat 1 = 1 from rfl]
    rintro e w23 ⟨rfl, hw⟩
    replace hw := hw.symm
    subst hw
    refine ⟨_, rfl, fun hi => bad hf10 (by rw [ho, if_pos (by simpa using hi)]), fun hi => ?_⟩
    rw [if_neg (by simpa using hi)] at ho
    obtain ⟨ad', had', hwr, ho26, hf26⟩ := OwnK.setField (enc := encR3) (k := 3) (fun _ => rfl) ho10 (i := init.length) (j := 2) (x := (last, x)) (y := (last, x.1, line.extract 1 line.size)) (v := .string (line.extract 1 line.size)) hat (show 2 < 3 by decide) rfl
    rw [had] at had'; cases had'
    refine ⟨⟨by omega, by omega⟩, ⟨by omega, by omega⟩, ad, had, hwr, fun w26 h26 => ?_⟩
    subst h26
    have hset : (init ++ [(last, x)]).set init.length (last, x.1, line.extract 1 line.size) = rupd (init ++ [(last, x)]) last (x.1, line.extract 1 line.size) := by
      rw [q2, List.set_append_right _ _ (Nat.le_refl _), Nat.sub_self]; rfl
    rw [hset] at ho26
    have hk : last ∈ RKeys (init ++ [(last, x)]) := by simp [RKeys]
    have hke := (rupd_keys last (x.1, line.extract 1 line.size) (init ++ [(last, x)])).1 hk
    refine ⟨⟨_, hf10.trans hf26 fun q hq ⟨y, hy, e⟩ => by have := (ho10.blk hy).1; omega, ho26, by omega, .inr ⟨he, ⟨by rw [hke]; exact hrok.names, by rw [hke]; exact hrok.once, by rw [← rkeys_len, hke, rkeys_len]; exact hrok.few⟩, f, last, ho, by omega, .inr ⟨init, _, q2 _⟩⟩⟩, hrs⟩
  · rw [if_neg (by rw [hb]; decide)] at ho
    rcases line_id line with ⟨k1, k2, k3, k4⟩ | ⟨k1, k2⟩
    rotate_left
    · have hbad : openE ys = .error 3 := by
        rw [ho]
        rcases k2 with k2 | k2
        · rw [if_pos k2]
        · by_cases k3 : (cutS line 32).2.2 = false
          · rw [if_pos k3]
          · rw [if_neg k3, if_pos k2]
      refine ⟨fun _ => bad hf10 hbad, fun h41 => ⟨⟨by omega, by have := of_decide_eq_false h41; omega⟩, fun _ => bad hf10 hbad, fun h32 => ⟨⟨by omega, by have := of_decide_eq_false h41; omega⟩, (rid_spec _ (by rw [ByteArray.size_extract]; omega) w10).mono ?_⟩⟩⟩
      rintro e w28 ⟨rfl, hw⟩
      replace hw := hw.symm
      subst hw
      refine ⟨_, rfl, fun _ => bad hf10 hbad, fun hi => ?_⟩
      refine absurd ⟨by have := of_decide_eq_false h41; omega, ?_, by simpa using hi⟩ k1
      have := show byteAt line ((40 : Nat) : Int) = 32 by simpa using h32
      rw [byteAt_nat] at this
      omega
    rw [k4] at ho
    simp only [Bool.true_eq_false, if_false] at ho
    rw [if_neg (by rw [k3]; decide)] at ho
    have hbyte : (byteAt line 40 != 32) = false := by
      rw [show (40 : Int) = ((40 : Nat) : Int) from rfl, byteAt_nat, k2]; rfl
    refine ⟨fun h => (by have := of_decide_eq_true h; omega), fun _ => ⟨⟨by omega, by omega⟩, fun h => (by rw [hbyte] at h; cases h), fun _ => ⟨⟨by omega, by omega⟩, (rid_spec _ (by rw [ByteArray.size_extract]; omega) w10).mono ?_⟩⟩⟩
    rw [show Int.toNat 40 = 40 from rfl, show Int.toNat 41 = 41 from rfl, k3]
    rintro e w28 ⟨rfl, hw⟩
    replace hw := hw.symm
    subst hw
    have hns : (line.extract 41 line.size).size ≤ 140737488355328 := by rw [ByteArray.size_extract]; omega
    generalize line.extract 41 line.size = name at ho hns ⊢
    generalize line.extract 0 40 = id at ho k3 ⊢
    refine ⟨_, rfl, fun h => (by cases h), fun _ => ⟨⟨by omega, by omega⟩, (rname_spec name hns w10).mono ?_⟩⟩
    rintro e w31 ⟨rfl, hf31⟩
    have hF31 := hf10.trans' hf31
    refine ⟨_, rfl, fun hb => bad hF31 (by rw [ho, if_pos (by simpa using hb)]), fun hb => ⟨⟨by omega, by omega⟩, ?_⟩⟩
    rw [if_neg (by simpa using hb)] at ho
    rw [bs_eq]
    refine ⟨fun hh => bad hF31 (by rw [ho, if_pos (show name = sHEAD from of_decide_eq_true hh)]), fun hh => ?_⟩
    rw [if_neg (show ¬ name = sHEAD from of_decide_eq_false hh)] at ho
    have ho31 := ho10.keep hf31 (by simp)
    refine ⟨fun q w' => ∃ k : Nat, q = k ∧ k ≤ rows.length ∧ (∀ r ∈ rows.take k, r.1 ≠ name) ∧ Fr (fun _ => False) w31 w', fun q _ => rows.length - q.toNat, ⟨0, rfl, Nat.zero_le _, by simp, .refl _ _⟩, ?_⟩
    rintro q w36 ⟨k, rfl, hk, hno, hf36⟩
    have e2 : IntKind.i64.wrap ((k : Int) + 1) = ((k + 1 : Nat) : Int) := by rw [wrap_i64 (by omega) (by omega)]; omega
    rw [e2]
    have hF36 := hF31.trans' hf36
    refine ⟨fun hlt => ?_, fun hge w45 d45 => ?_⟩
    · have hlt := of_decide_eq_true hlt
      have hkl : k < rows.length := by omega
      have hx : rows[k]? = some rows[k] := List.getElem?_eq_getElem hkl
      generalize rows[k] = x at hx
      have htk : rows.take (k + 1) = rows.take k ++ [x] := by rw [List.take_add_one, hx]; rfl
      obtain ⟨ad, had, hload⟩ := ((ho31.keep hf36 (by simp)).reads fun _ => rfl).load elR3 hx
      refine ⟨⟨by omega, by omega⟩, ad, had, x.1, x.2.1, x.2.2, by rw [Int.toNat_natCast]; exact hload, fun w41 h41 => ?_⟩
      subst h41
      have hfa : Fr (fun _ => False) w36 (w36.alloc (.cells (encR3 x).toArray T_cartularyref16_Row)) := .alloc _ _ _
      have hbx := boxR_cell w36 x (.refl (fun _ => False) _) (by simp) (j := 0) rfl
      refine ⟨_, boxR_run w36 x, x.1, hbx, ⟨by omega, by omega⟩, fun w44 d44 => ?_⟩
      have hF44 := (hF36.trans' hfa).trans' (.drew _ d44)
      have hf44 := (hf36.trans' hfa).trans' (.drew _ d44)
      rw [bs_eq]
      refine ⟨fun hq => bad hF44 ?_, fun hq => ⟨⟨k + 1, rfl, by omega, fun r hrm => ?_, hf44⟩, by dsimp only; omega⟩⟩
      · have hq : x.1 = name := of_decide_eq_true hq
        have : name ∈ RKeys rows := List.mem_map.2 ⟨x, List.mem_of_getElem? hx, hq⟩
        rw [ho, if_pos ((rlook_keys name rows).2 this)]
      · rw [htk] at hrm
        rcases List.mem_append.1 hrm with hrm | hrm
        · exact hno r hrm
        · rw [List.mem_singleton.1 hrm]; exact of_decide_eq_false hq
    · have hge := of_decide_eq_false hge
      have hk' : k = rows.length := by omega
      rw [hk', List.take_length] at hno
      have hnk : name ∉ RKeys rows := fun hm => by
        obtain ⟨r, hrm, he⟩ := List.mem_map.1 hm
        exact hno r hrm he
      rw [if_neg (fun hh => hnk ((rlook_keys name rows).1 hh))] at ho
      have hF45 := hF36.trans' (.drew _ d45)
      have ho45 := (ho31.keep hf36 (by simp)).drew d45
      refine ⟨fun _ => True, trivial, ⟨by omega, by omega⟩, ⟨by omega, by omega⟩, fun w47 h47 => ⟨trivial, ?_⟩⟩
      obtain ⟨w48, l49, hr48, ho48, hf48, _⟩ := append_oneK elR3 ho45 (x := (name, id, ⟨#[]⟩)) (by simp only [maxLen]; omega) (by omega) hF45.size h47
      have hF48 := hF45.trans hf48 fun q hq ⟨y, hy, e⟩ => by have := (ho45.blk hy).1; omega
      have hl49 : l49.len = rows.length + 1 := by rw [ho48.len, List.length_append]; rfl
      refine ⟨w48, l49, hr48, trivial, fun h => bad hF48 ?_, fun h => ?_⟩
      · have := of_decide_eq_true h
        rw [ho, if_pos (by omega)]
      · have := of_decide_eq_false h
        rw [if_neg (by omega), rupd_new hnk] at ho
        have hke : RKeys (rows ++ [(name, id, ⟨#[]⟩)]) = RKeys rows ++ [name] := by simp [RKeys]
        refine ⟨⟨_, hF48, ho48, by omega, .inr ⟨he, ⟨fun j hj => ?_, ?_, by rw [List.length_append, List.length_singleton]; omega⟩, f, name, ho, by omega, .inr ⟨rows, _, rfl⟩⟩⟩, hrs⟩
        · rw [hke, List.mem_append, List.mem_singleton] at hj
          rcases hj with hj | rfl
          · exact hrok.names j hj
          · exact ⟨by simpa using hb, fun e => of_decide_eq_false hh e⟩
        · rw [hke]
          refine List.nodup_append.2 ⟨hrok.once, by simp, fun u hu v hv e => ?_⟩
          rw [List.mem_singleton] at hv
          subst hv e
          exact hnk hu
end Go.Proofs.YtmhlmdnhpfhoeaaGreatDoor
namespace Go.Proofs.YtmhlmdnhpfhoeaaGreatDoor
open Go Vc HexM Go.Proofs

theorem suf_one_iff {l : List UInt8} {c : UInt8} (h : sufL [c] l = true) : ∃ init, l = init ++ [c] := by
  obtain ⟨init, hi⟩ := of_decide_eq_true h
  exact ⟨init, hi.symm⟩
/-- What a reference's file says, as the reference reads it. -/
theorem file_cases {ys : List FileE} {s text : ByteArray} (hg : getE ys s = (text, 0)) :
    ((text.size = 41 ∧ byt text 40 = 10 ∧ isId (text.extract 0 40).data.toList = true) ∧ fileE ys s = (text.extract 0 40, ⟨#[]⟩, 0)) ∨
    (¬ (text.size = 41 ∧ byt text 40 = 10 ∧ isId (text.extract 0 40).data.toList = true) ∧
      ((begB text sRefSp = false ∨ sufL [10] text.data.toList = false ∨ nameB (text.extract 5 (text.size - 1)) = false) ∧ fileE ys s = (⟨#[]⟩, ⟨#[]⟩, 3) ∨
       (begB text sRefSp = true ∧ sufL [10] text.data.toList = true ∧ nameB (text.extract 5 (text.size - 1)) = true ∧ fileE ys s = (⟨#[]⟩, text.extract 5 (text.size - 1), 0)))) := by
  have hE : fileE ys s = (if (getE ys s).2 ≠ 0 then (⟨#[]⟩, ⟨#[]⟩, (getE ys s).2)
    else if isId (cutSuf (getE ys s).1 ⟨#[10]⟩).data.toList = true ∧ sufL [10] (getE ys s).1.data.toList = true then (cutSuf (getE ys s).1 ⟨#[10]⟩, ⟨#[]⟩, 0)
    else if sufL [10] (getE ys s).1.data.toList = false then (⟨#[]⟩, ⟨#[]⟩, 3)
    else if begB (cutSuf (getE ys s).1 ⟨#[10]⟩) sRefSp = false then (⟨#[]⟩, ⟨#[]⟩, 3)
    else if nameB (cutPre (cutSuf (getE ys s).1 ⟨#[10]⟩) sRefSp) = false then (⟨#[]⟩, ⟨#[]⟩, 3)
    else (⟨#[]⟩, cutPre (cutSuf (getE ys s).1 ⟨#[10]⟩) sRefSp, 0)) := rfl
  rw [hg] at hE
  simp only at hE
  rw [if_neg (by decide)] at hE
  by_cases hs : sufL [10] text.data.toList = true
  · obtain ⟨init, hi⟩ := suf_one_iff hs
    have hsz : text.size = init.length + 1 := by rw [← bs_len, hi]; simp
    have hline : cutSuf text ⟨#[10]⟩ = ⟨init.toArray⟩ := by
      unfold cutSuf
      rw [if_pos hs]
      refine bs_ext ?_
      rw [bs_head, bs_mk, hi]
      have : text.size - ByteArray.size ⟨#[10]⟩ = init.length := by rw [hsz]; rfl
      rw [this, List.take_left]
    rw [hline, bs_mk] at hE
    have hA : (text.size = 41 ∧ byt text 40 = 10 ∧ isId (text.extract 0 40).data.toList = true) ↔ isId init = true := by
      constructor
      · rintro ⟨h1, _, h3⟩
        rw [bs_head, hi, List.take_left' (by omega)] at h3
        exact h3
      · intro h
        have hl : init.length = 40 := by
          unfold isId at h
          rw [Bool.and_eq_true] at h
          exact eq_of_beq h.2
        refine ⟨by omega, ?_, ?_⟩
        · unfold byt
          rw [hi, List.getElem?_append_right (by omega), hl]; rfl
        · rw [bs_head, hi, List.take_left' hl]; exact h
    by_cases hid : isId init = true
    · refine .inl ⟨hA.2 hid, ?_⟩
      have h41 := (hA.2 hid).1
      rw [hE, if_pos ⟨hid, hs⟩]
      have : (⟨init.toArray⟩ : ByteArray) = text.extract 0 40 := bs_ext (by rw [bs_mk, bs_head, hi, List.take_left' (by omega)])
      rw [this]
    · refine .inr ⟨fun h => hid (hA.1 h), ?_⟩
      rw [if_neg (fun h => hid h.1), if_neg (by rw [hs]; decide)] at hE
      have hbeg : begB ⟨init.toArray⟩ sRefSp = begB text sRefSp := by
        unfold begB
        rw [bs_mk, hi]
        refine decide_eq_decide.2 ⟨fun h => h.trans (List.prefix_append _ _), fun h => ?_⟩
        by_cases hl : sRefSp.data.toList.length ≤ init.length
        · exact List.prefix_of_prefix_length_le h (List.prefix_append _ _) hl
        · exfalso
          have h5 : sRefSp.data.toList.length = 5 := rfl
          have hle : sRefSp.data.toList.length ≤ (init ++ [(10 : UInt8)]).length := h.length_le
          rw [List.length_append, List.length_singleton, h5] at hle
          rw [h5] at hl
          have hi4 : init.length = 4 := by omega
          have heq : sRefSp.data.toList = init ++ [10] := h.eq_of_length (by rw [h5, List.length_append, hi4]; rfl)
          have h6 : sRefSp.data.toList[4]? = (init ++ [(10 : UInt8)])[4]? := by rw [heq]
          rw [List.getElem?_append_right (by omega), hi4] at h6
          revert h6; decide
      rw [hbeg] at hE
      by_cases hb : begB text sRefSp = true
      · rw [if_neg (by rw [hb]; decide)] at hE
        have hpre : cutPre ⟨init.toArray⟩ sRefSp = text.extract 5 (text.size - 1) := by
          unfold cutPre
          rw [if_pos (hbeg.trans hb)]
          refine bs_ext ?_
          rw [bs_tail, bs_mk, bs_extract, hi, hsz]
          show init.drop 5 = _
          have hl5 : 5 ≤ init.length := by have := beg_le (hbeg.trans hb); rw [bs_mksize] at this; exact this
          rw [List.drop_append_of_le_length hl5, List.take_left' (by rw [List.length_drop]; omega)]
        rw [hpre] at hE
        by_cases hn : nameB (text.extract 5 (text.size - 1)) = true
        · rw [if_neg (by rw [hn]; decide)] at hE
          exact .inr ⟨hb, hs, hn, hE⟩
        · have hn : nameB (text.extract 5 (text.size - 1)) = false := by simpa using hn
          rw [if_pos hn] at hE
          exact .inl ⟨.inr (.inr hn), hE⟩
      · have hb : begB text sRefSp = false := by simpa using hb
        rw [if_pos hb] at hE
        exact .inl ⟨.inl hb, hE⟩
  · have hs : sufL [10] text.data.toList = false := by simpa using hs
    refine .inr ⟨fun ⟨h1, h2, _⟩ => ?_, .inl ⟨.inr (.inl hs), ?_⟩⟩
    · have hc := bs_byt (s := text) (i := 40) (by omega)
      have hlt : 40 < text.data.toList.length := by rw [bs_len]; omega
      have h10 : text.data.toList[40] = 10 := UInt8.toNat_inj.1 (show text.data.toList[40].toNat = (10 : UInt8).toNat by rw [← hc, h2]; rfl)
      have : [(10 : UInt8)] <:+ text.data.toList := ⟨text.data.toList.take 40, by
        have h3 := List.drop_eq_getElem_cons hlt
        rw [h10, List.drop_eq_nil_of_le (i := 41) (by rw [bs_len]; omega)] at h3
        rw [← h3, List.take_append_drop]⟩
      unfold sufL at hs
      rw [decide_eq_true this] at hs
      cases hs
    · rw [hE, if_neg (fun h => by rw [hs] at h; cases h.2), if_pos hs]
theorem rlook_take {rows : List RowE} {p : ByteArray} (h : ∀ r ∈ rows, r.1 ≠ p) : rlook rows p = none := by
  induction rows with
  | nil => rfl
  | cons r rs ih =>
    show rlook (r :: rs) p = none
    rw [rlook, if_neg (h r (.head _)), ih fun x hx => h x (.tail _ hx)]
theorem rlook_at {a b : List RowE} {r : RowE} (h : ∀ x ∈ a, x.1 ≠ r.1) : rlook (a ++ r :: b) r.1 = some r.2 := by
  induction a with
  | nil => show rlook (r :: b) r.1 = _; rw [rlook, if_pos rfl]
  | cons x xs ih =>
    show rlook (x :: (xs ++ r :: b)) r.1 = _
    rw [rlook, if_neg (h x (.head _)), ih fun y hy => h y (.tail _ hy)]
section
variable {w : World} {a ra : Option Addr} {n c rn rc : Nat} {xs ys : List FileE} {rows : List RowE}
theorem rlookup_spec (hr : ReadsK encF 2 w a xs) (hn : xs.length = n) (hl : n ≤ 1000000) (hp : ys.Perm xs) (hst : ys.Pairwise fun x y => x.path.data.toList < y.path.data.toList) (hd : ∀ x ∈ ys, x.data.size ≤ 140737488355328)
    (hrr : ReadsK encR3 3 w ra rows) (hrn : rows.length = rn) (hrl : rn ≤ 1000000) (name : ByteArray) (hns : name.size ≤ 140737488355328) : Calls Tryz.prog F_cartularyref16_Lookup #[.slice a n c, .slice ra rn rc, .string name] w fun e w' =>
    e = .returned (.tuple #[.string (lookE ys rows name).1, .int .i64 (lookE ys rows name).2]) ∧ Fr (fun _ => False) w w' := by
  refine vc_cartularyref16_Lookup_ok (R := fun v w' => v = .tuple #[.string (lookE ys rows name).1, .int .i64 (lookE ys rows name).2] ∧ Fr (fun _ => False) w w') ?_ (fun v w' h => ⟨by rw [h.1], h.2⟩)
  have fin : ∀ {w' : World} {a : ByteArray} {n : Int}, Fr (fun _ => False) w w' → lookE ys rows name = (a, n) → Value.tuple #[.string a, .int .i64 n] = .tuple #[.string (lookE ys rows name).1, .int .i64 (lookE ys rows name).2] ∧ Fr (fun _ => False) w w' := fun hf he => ⟨by rw [he], hf⟩
  refine (rname_spec name hns w).mono ?_
  rintro e w2 ⟨rfl, hf2⟩
  refine ⟨_, rfl, fun hk => fin hf2 (by unfold lookE; rw [if_pos (by simpa using hk)]), fun hk => ?_⟩
  have hE : lookE ys rows name = lookF ys rows 5 name := by unfold lookE; rw [if_neg (by simpa using hk)]
  refine ⟨fun s z w' => Fr (fun _ => False) w w' ∧ ∃ f : Nat, f ≤ 5 ∧ z = ((5 - f : Nat) : Int) ∧ lookE ys rows name = lookF ys rows f s, fun _ z _ => 5 - z.toNat, ⟨hf2, 5, Nat.le_refl _, rfl, hE⟩, ?_⟩
  clear hE
  rintro s z w8 ⟨hf8, f, hf5, rfl, hE⟩
  refine (rget_spec (hr.keep hf8 (by simp)) hn hl s).mono ?_
  rintro e w10 ⟨rfl, hf10⟩
  rw [← find_perm hp (strict_uniq hst)]
  have hF10 := hf8.trans' hf10
  have hdl := get_le hd s
  rw [lookF_eq] at hE
  rcases getE_err ys s with h0 | ⟨h0, _⟩
  · have hg : getE ys s = ((getE ys s).1, 0) := by rw [← h0]
    generalize (getE ys s).1 = text at hg hdl ⊢
    rw [h0]
    refine ⟨_, _, rfl, fun h => (by simp at h), fun _ => ⟨fun w' => Fr (fun _ => False) w w' ∧ ¬ (text.size = 41 ∧ byt text 40 = 10 ∧ isId (text.extract 0 40).data.toList = true), ⟨fun h41 => ⟨⟨by omega, by have := eq_of_beq h41; omega⟩, fun h10 => ⟨⟨by omega, by have := eq_of_beq h41; omega⟩, (rid_spec (text.extract 0 40) (by rw [ByteArray.size_extract]; omega) w10).mono ?_⟩, fun h10 => ⟨hF10, fun hA => ?_⟩⟩, fun h41 => ⟨hF10, fun hA => ?_⟩⟩, ?_⟩⟩
    · rintro e w27 ⟨rfl, hw⟩
      replace hw := hw.symm
      subst hw
      refine ⟨_, rfl, fun hi => ⟨⟨by omega, by have := eq_of_beq h41; omega⟩, fin hF10 ?_⟩, fun hi => ⟨hF10, fun hA => by rw [hA.2.2] at hi; cases hi⟩⟩
      have hA : text.size = 41 ∧ byt text 40 = 10 ∧ isId (text.extract 0 40).data.toList = true := by
        refine ⟨by have := eq_of_beq h41; omega, ?_, hi⟩
        have := eq_of_beq h10
        rw [show (40 : Int) = ((40 : Nat) : Int) from rfl, byteAt_nat] at this
        omega
      rcases file_cases hg with ⟨_, hfe⟩ | ⟨hn, _⟩
      · rw [hE, hfe]
        simp only
        rw [if_neg (by decide), if_pos (.inr fun e => by have := id_full hi; rw [e] at this; cases this)]
        rfl
      · exact absurd hA hn
    · rw [show (40 : Int) = ((40 : Nat) : Int) from rfl, byteAt_nat, hA.2.1] at h10
      simp at h10
    · rw [hA.1] at h41
      simp at h41
    rintro w29 ⟨hf29, hnA⟩
    rcases file_cases hg with ⟨hA, _⟩ | ⟨_, hcs⟩
    · exact absurd hA hnA
    have h3 : (begB text sRefSp = false ∨ sufL [10] text.data.toList = false ∨ nameB (text.extract 5 (text.size - 1)) = false) → lookE ys rows name = (⟨#[]⟩, 3) := fun hbad => by
      rcases hcs with ⟨_, hfe⟩ | ⟨k1, k2, k3, _⟩
      · rw [hE, hfe]
        simp only
        rw [if_neg (by decide), if_pos (.inl (by decide))]
      · rw [k1, k2, k3] at hbad
        simp at hbad
    refine (begins_spec text sRefSp w29).mono ?_
    rintro e w31 ⟨rfl, hw⟩
    replace hw := hw.symm
    subst hw
    refine ⟨_, rfl, fun hb => fin hf29 (h3 (.inl (by simpa using hb))), fun hb => (rends_spec text ⟨#[10]⟩ hdl w29).mono ?_⟩
    have hb : begB text sRefSp = true := by simpa using hb
    rintro e w34 ⟨rfl, hw⟩
    replace hw := hw.symm
    subst hw
    rw [show (⟨#[10]⟩ : ByteArray).data.toList = [10] from rfl]
    refine ⟨_, rfl, fun hs => fin hf29 (h3 (.inr (.inl (by simpa using hs)))), fun hs => ?_⟩
    have hs : sufL [10] text.data.toList = true := by simpa using hs
    have h6 : 6 ≤ text.size := by
      have h5 : 5 ≤ text.size := beg_le hb
      rcases Nat.lt_or_ge 5 text.size with h | h
      · exact h
      · exfalso
        have hpre : sRefSp.data.toList <+: text.data.toList := by unfold begB at hb; exact of_decide_eq_true hb
        have heq := hpre.eq_of_length (by rw [bs_len text]; have : sRefSp.data.toList.length = 5 := rfl; omega)
        rw [← heq] at hs
        revert hs; decide
    have e1 : IntKind.i64.wrap ((text.size : Int) - 1) = ((text.size - 1 : Nat) : Int) := by rw [wrap_i64 (by omega) (by omega)]; omega
    rw [e1, Int.toNat_natCast, show Int.toNat 5 = 5 from rfl]
    refine ⟨⟨by omega, by omega, by omega⟩, (rname_spec _ (by rw [ByteArray.size_extract]; omega) w29).mono ?_⟩
    rintro e w37 ⟨rfl, hf37⟩
    have hF37 := hf29.trans' hf37
    refine ⟨_, rfl, fun hn => fin hF37 (h3 (.inr (.inr (by simpa using hn)))), fun hn => ?_⟩
    have hn : nameB (text.extract 5 (text.size - 1)) = true := by simpa using hn
    have hfe : fileE ys s = (⟨#[]⟩, text.extract 5 (text.size - 1), 0) := by
      rcases hcs with ⟨hbad, _⟩ | ⟨_, _, _, hfe⟩
      · rw [hb, hs, hn] at hbad
        simp at hbad
      · exact hfe
    rw [hfe] at hE
    simp only at hE
    rw [if_neg (by decide), if_neg (by simp)] at hE
    refine ⟨fun h5 => fin hF37 ?_, fun h5 => ⟨⟨by omega, by omega, by omega⟩, ?_⟩⟩
    · have hf0 : f = 0 := by have := eq_of_beq h5; omega
      subst hf0
      exact hE
    · obtain ⟨g, rfl⟩ : ∃ g, f = g + 1 := ⟨f - 1, by
        rcases Nat.eq_zero_or_pos f with h0 | h0
        · subst h0; simp at h5
        · omega⟩
      have e2 : IntKind.i64.wrap (((5 - (g + 1) : Nat) : Int) + 1) = ((5 - g : Nat) : Int) := by rw [wrap_i64 (by omega) (by omega)]; omega
      rw [e2]
      exact ⟨⟨hF37, g, by omega, rfl, hE⟩, by dsimp only; omega⟩
  · have hf7 : (fileE ys s).2.2 = 7 := by unfold fileE; rw [if_pos (by rw [h0]; decide)]; exact h0
    rw [if_pos hf7] at hE
    rw [h0]
    refine ⟨_, _, rfl, fun _ => ?_, fun h => (by simp at h)⟩
    have hrr10 := hrr.keep hF10 (by simp)
    refine ⟨fun q w' => ∃ k : Nat, q = k ∧ k ≤ rows.length ∧ (∀ r ∈ rows.take k, r.1 ≠ s) ∧ Fr (fun _ => False) w10 w', fun q _ => rows.length - q.toNat, ⟨0, rfl, Nat.zero_le _, by simp, .refl _ _⟩, ?_⟩
    rintro q w16 ⟨k, rfl, hk, hno, hf16⟩
    have e2 : IntKind.i64.wrap ((k : Int) + 1) = ((k + 1 : Nat) : Int) := by rw [wrap_i64 (by omega) (by omega)]; omega
    rw [e2]
    have hF16 := hF10.trans' hf16
    refine ⟨fun hlt => ?_, fun hge => ?_⟩
    · have hlt := of_decide_eq_true hlt
      have hkl : k < rows.length := by omega
      have hx : rows[k]? = some rows[k] := List.getElem?_eq_getElem hkl
      have hdr : rows.drop k = rows[k] :: rows.drop (k + 1) := List.drop_eq_getElem_cons hkl
      generalize rows[k] = x at hx hdr
      have htk : rows.take (k + 1) = rows.take k ++ [x] := by rw [List.take_add_one, hx]; rfl
      have hsp : rows = rows.take k ++ x :: rows.drop (k + 1) := by rw [← hdr, List.take_append_drop]
      obtain ⟨ad, had, hload⟩ := (hrr10.keep hf16 (by simp)).load elR3 hx
      refine ⟨⟨by omega, by omega⟩, ad, had, x.1, x.2.1, x.2.2, by rw [Int.toNat_natCast]; exact hload, fun w21 h21 => ?_⟩
      subst h21
      have hfa : Fr (fun _ => False) w16 (w16.alloc (.cells (encR3 x).toArray T_cartularyref16_Row)) := .alloc _ _ _
      have hbx := boxR_cell w16 x (.refl (fun _ => False) _) (by simp) (j := 0) rfl
      have hb1 := boxR_cell w16 x (.refl (fun _ => False) _) (by simp) (j := 1) rfl
      refine ⟨_, boxR_run w16 x, x.1, hbx, ?_⟩
      rw [bs_eq]
      refine ⟨fun hq => ⟨x.2.1, hb1, fin (hF16.trans' hfa) ?_⟩, fun hq => ⟨⟨k + 1, rfl, by omega, fun r hrm => ?_, hf16.trans' hfa⟩, by dsimp only; omega⟩⟩
      · have hq : x.1 = s := of_decide_eq_true hq
        subst hq
        rw [hE, hsp, rlook_at hno]
      · rw [htk] at hrm
        rcases List.mem_append.1 hrm with hrm | hrm
        · exact hno r hrm
        · rw [List.mem_singleton.1 hrm]; exact of_decide_eq_false hq
    · have hge := of_decide_eq_false hge
      have hk' : k = rows.length := by omega
      rw [hk', List.take_length] at hno
      rw [rlook_take hno] at hE
      exact fin hF16 hE
theorem rpeeled_spec (hr : ReadsK encF 2 w a xs) (hn : xs.length = n) (hl : n ≤ 1000000) (hp : ys.Perm xs) (hst : ys.Pairwise fun x y => x.path.data.toList < y.path.data.toList)
    (hrr : ReadsK encR3 3 w ra rows) (hrn : rows.length = rn) (hrl : rn ≤ 1000000) (hu : (RKeys rows).Nodup) (name : ByteArray) : Calls Tryz.prog F_cartularyref16_Peeled #[.slice a n c, .slice ra rn rc, .string name] w fun e w' =>
    e = .returned (.string (peelE ys rows name)) ∧ Fr (fun _ => False) w w' := by
  refine vc_cartularyref16_Peeled_ok (R := fun v w' => v = .string (peelE ys rows name) ∧ Fr (fun _ => False) w w') ?_ (fun v w' h => ⟨by rw [h.1], h.2⟩)
  refine (rget_spec hr hn hl name).mono ?_
  rintro e w2 ⟨rfl, hf2⟩
  rw [← find_perm hp (strict_uniq hst)]
  have hE : peelE ys rows name = if (getE ys name).2 = 0 then ⟨#[]⟩ else ((rlook rows name).map (·.2)).getD ⟨#[]⟩ := rfl
  generalize (getE ys name).2 = er at hE ⊢
  generalize (getE ys name).1 = text
  have hrr2 := hrr.keep hf2 (by simp)
  refine ⟨_, _, rfl, fun q w' => ∃ k : Nat, q = k ∧ k ≤ rows.length ∧ (er ≠ 0 → ∀ r ∈ rows.take k, r.1 ≠ name) ∧ Fr (fun _ => False) w2 w', fun q _ => rows.length - q.toNat, ⟨0, rfl, Nat.zero_le _, by simp, .refl _ _⟩, ?_⟩
  rintro q w8 ⟨k, rfl, hk, hno, hf8⟩
  have e2 : IntKind.i64.wrap ((k : Int) + 1) = ((k + 1 : Nat) : Int) := by rw [wrap_i64 (by omega) (by omega)]; omega
  rw [e2]
  have hF8 := hf2.trans' hf8
  refine ⟨fun hlt => ?_, fun hge => ?_⟩
  · have hlt := of_decide_eq_true hlt
    have hkl : k < rows.length := by omega
    have hx : rows[k]? = some rows[k] := List.getElem?_eq_getElem hkl
    have hdr : rows.drop k = rows[k] :: rows.drop (k + 1) := List.drop_eq_getElem_cons hkl
    generalize rows[k] = x at hx hdr
    have htk : rows.take (k + 1) = rows.take k ++ [x] := by rw [List.take_add_one, hx]; rfl
    have hsp : rows = rows.take k ++ x :: rows.drop (k + 1) := by rw [← hdr, List.take_append_drop]
    obtain ⟨ad, had, hload⟩ := (hrr2.keep hf8 (by simp)).load elR3 hx
    refine ⟨⟨by omega, by omega⟩, ad, had, x.1, x.2.1, x.2.2, by rw [Int.toNat_natCast]; exact hload, fun w13 h13 => ?_⟩
    subst h13
    have hfa : Fr (fun _ => False) w8 (w8.alloc (.cells (encR3 x).toArray T_cartularyref16_Row)) := .alloc _ _ _
    have hbx := boxR_cell w8 x (.refl (fun _ => False) _) (by simp) (j := 0) rfl
    have hb2 := boxR_cell w8 x (.refl (fun _ => False) _) (by simp) (j := 2) rfl
    refine ⟨_, boxR_run w8 x, x.1, hbx, ?_⟩
    rw [bs_eq]
    refine ⟨fun hq => ⟨fun he => ⟨x.2.2, hb2, ?_, hF8.trans' hfa⟩, fun he => ⟨⟨k + 1, rfl, by omega, fun hne => ?_, hf8.trans' hfa⟩, by dsimp only; omega⟩⟩, fun hq => ⟨⟨k + 1, rfl, by omega, fun hne r hrm => ?_, hf8.trans' hfa⟩, by dsimp only; omega⟩⟩
    · have he : er ≠ 0 := by simpa using he
      have hq : x.1 = name := of_decide_eq_true hq
      subst hq
      rw [hE, if_neg he, hsp, rlook_at (hno he)]; rfl
    · have he : er = 0 := by simpa using he
      exact absurd he hne
    · rw [htk] at hrm
      rcases List.mem_append.1 hrm with hrm | hrm
      · exact hno hne r hrm
      · rw [List.mem_singleton.1 hrm]; exact of_decide_eq_false hq
  · have hge := of_decide_eq_false hge
    have hk' : k = rows.length := by omega
    rw [hk', List.take_length] at hno
    refine ⟨?_, hF8⟩
    by_cases he : er = 0
    · rw [hE, if_pos he]
    · rw [hE, if_neg he, rlook_take (hno he)]; rfl
theorem putAll_snoc (us : List ByteArray) (x : ByteArray) (o : List ByteArray) : putAll (us ++ [x]) o = putR x false (putAll us o) := by
  unfold putAll; rw [List.foldl_append]; rfl
theorem putAll_app (us vs o : List ByteArray) : putAll (us ++ vs) o = putAll vs (putAll us o) := by
  unfold putAll; rw [List.foldl_append]
theorem rnames_spec (hr : ReadsK encF 2 w a xs) (hn : xs.length = n) (hl : n ≤ 400000) (hp : ys.Perm xs) (hst : ys.Pairwise fun x y => x.path.data.toList < y.path.data.toList) (hpz : ∀ x ∈ ys, x.path.size ≤ 140737488355328)
    (hrr : ReadsK encR3 3 w ra rows) (hrn : rows.length = rn) (hrl : rn ≤ 400000) (front : ByteArray) : Calls Tryz.prog F_cartularyref16_Names #[.slice a n c, .slice ra rn rc, .string front] w fun e w' =>
    ∃ o, e = .returned (.slice o.a o.len o.cap) ∧ Vc.Own w' w.heap.size T_string o (strV (namesE ys rows front)) ∧ Fr (fun _ => False) w w' := by
  refine vc_cartularyref16_Names_ok (R := fun v w' => ∃ o : Sl, v = .slice o.a o.len o.cap ∧ Vc.Own w' w.heap.size T_string o (strV (namesE ys rows front)) ∧ Fr (fun _ => False) w w') ?_ (fun v w' ⟨o, h⟩ => ⟨o, by rw [h.1], h.2⟩)
  intro w1 h1
  have hf1 : Fr (fun _ => False) w w1 := by rw [h1]; exact .alloc _ _ _
  have ho1 : Vc.Own w1 w.heap.size T_string ⟨some ⟨w.heap.size, 0, none⟩, 0, 0⟩ (strV []) := by rw [h1]; exact own_lit w _
  clear h1
  refine (runder_spec (hr.keep hf1 (by simp)) hn (by omega) sRefs).mono ?_
  rintro e w3 ⟨u, rfl, hu, hf3⟩
  rw [rUnder_under hp hst] at hu
  have hus : (underE ys sRefs).length ≤ 400000 := by
    have h1 := List.length_filter_le (fun x : FileE => begB x.path sRefs) ys
    have h2 := hp.length_eq
    unfold underE
    rw [List.length_map]; omega
  have hup : ∀ p ∈ underE ys sRefs, p.size ≤ 140737488355328 := fun p hpm => by
    obtain ⟨_, y, hy, rfl⟩ := under_mem hpm
    exact hpz y hy
  have hnm : namesE ys rows front = putAll ((RKeys rows).filter fun p => begB p front) (putAll ((underE ys sRefs).filter fun p => nameB p && begB p front) []) := by
    unfold namesE namesU
    rw [putAll_app]
  generalize underE ys sRefs = us at hu hus hup hnm
  have hur := hu.reads
  have hul := hu.len
  simp only [strV, List.length_map] at hul
  have hF3 := hf1.trans' hf3
  refine ⟨u, rfl, fun sl i w' => ∃ k : Nat, i = k ∧ k ≤ us.length ∧ Vc.Own w' w.heap.size T_string sl (strV (putAll ((us.take k).filter fun p => nameB p && begB p front) [])) ∧ Fr (fun _ => False) w3 w', fun _ i _ => us.length - i.toNat,
    ⟨0, rfl, Nat.zero_le _, ho1.keep hf3 (by simp), .refl _ _⟩, ?_⟩
  rintro sl i w9 ⟨k, rfl, hk, ho, hf9⟩
  have e1 : IntKind.i64.wrap ((k : Int) + 1) = ((k + 1 : Nat) : Int) := by rw [wrap_i64 (by omega) (by omega)]; omega
  rw [e1]
  have hF9 := hF3.trans' hf9
  refine ⟨fun hlt => ?_, fun hge => ?_⟩
  · have hlt := of_decide_eq_true hlt
    have hkl : k < us.length := by omega
    have hx : us[k]? = some us[k] := List.getElem?_eq_getElem hkl
    have hxm : us[k] ∈ us := List.getElem_mem hkl
    generalize us[k] = x at hx hxm
    have htk : us.take (k + 1) = us.take k ++ [x] := by rw [List.take_add_one, hx]; rfl
    obtain ⟨ad, had, hc⟩ := hur k (.string x) (by simp [strV, hx])
    refine ⟨⟨by omega, by omega⟩, ad, had, x, by rw [Int.toNat_natCast, Nat.mul_one]; exact hf9.cell hc (by simp), (rname_spec x (hup x hxm) w9).mono ?_⟩
    rintro e w13 ⟨rfl, hf13⟩
    have hF13 := hf9.trans' hf13
    have ho13 := ho.keep hf13 (by simp)
    have hno : (nameB x && begB x front) = false → ∃ k' : Nat, ((k + 1 : Nat) : Int) = k' ∧ k' ≤ us.length ∧ Vc.Own w13 w.heap.size T_string sl (strV (putAll ((us.take k').filter fun p => nameB p && begB p front) [])) ∧ Fr (fun _ => False) w3 w13 := fun hh => by
      refine ⟨k + 1, rfl, by omega, ?_, hF13⟩
      rw [htk, List.filter_append, List.filter_cons_of_neg (p := fun p => nameB p && begB p front) (by rw [hh]; decide), List.filter_nil, List.append_nil]
      exact ho13
    refine ⟨_, rfl, fun hn => (begins_spec x front w13).mono ?_, fun hn => ⟨hno (by rw [hn]; rfl), by dsimp only; omega⟩⟩
    rintro e w16 ⟨rfl, hw⟩
    replace hw := hw.symm
    subst hw
    refine ⟨_, rfl, fun hb => ?_, fun hb => ⟨hno (by rw [hb, Bool.and_false]), by dsimp only; omega⟩⟩
    have hln : (putAll ((us.take k).filter fun p => nameB p && begB p front) []).length = sl.len := by rw [ho13.len]; simp [strV]
    have hlb : (putAll ((us.take k).filter fun p => nameB p && begB p front) []).length ≤ 1000000 := by
      have h1 := putAll_len ((us.take k).filter fun p => nameB p && begB p front) []
      have h2 := List.length_filter_le (fun p => nameB p && begB p front) (us.take k)
      rw [List.length_take] at h2
      simp only [List.length_nil] at h1
      omega
    refine (rput_spec ho13.reads hln (by omega) x).mono ?_
    rintro e w19 ⟨l20, rfl, ho19, hf19⟩
    refine ⟨l20, rfl, ⟨k + 1, rfl, by omega, ?_, hF13.trans' hf19⟩, by dsimp only; omega⟩
    rw [htk, List.filter_append, List.filter_cons_of_pos (p := fun p => nameB p && begB p front) (by rw [hn, hb]; rfl), List.filter_nil, putAll_snoc]
    exact ho19.mono (hF3.trans' hF13).size
  · have hge := of_decide_eq_false hge
    have hk' : k = us.length := by omega
    rw [hk', List.take_length] at ho
    have hAl : (putAll (us.filter fun p => nameB p && begB p front) []).length ≤ 400000 := by
      have h1 := putAll_len (us.filter fun p => nameB p && begB p front) []
      have h2 := List.length_filter_le (fun p => nameB p && begB p front) us
      simp only [List.length_nil] at h1
      omega
    generalize putAll (us.filter fun p => nameB p && begB p front) [] = A at ho hnm hAl
    have hrr9 := hrr.keep hF9 (by simp)
    refine ⟨fun sl i w' => ∃ k : Nat, i = k ∧ k ≤ rows.length ∧ Vc.Own w' w.heap.size T_string sl (strV (putAll ((RKeys (rows.take k)).filter fun p => begB p front) A)) ∧ Fr (fun _ => False) w9 w', fun _ i _ => rows.length - i.toNat,
      ⟨0, rfl, Nat.zero_le _, ho, .refl _ _⟩, ?_⟩
    clear ho
    rintro sl i w25 ⟨k, rfl, hk, ho, hf25⟩
    have e2 : IntKind.i64.wrap ((k : Int) + 1) = ((k + 1 : Nat) : Int) := by rw [wrap_i64 (by omega) (by omega)]; omega
    rw [e2]
    refine ⟨fun hlt => ?_, fun hge => ?_⟩
    · have hlt := of_decide_eq_true hlt
      have hkl : k < rows.length := by omega
      have hx : rows[k]? = some rows[k] := List.getElem?_eq_getElem hkl
      generalize rows[k] = x at hx
      have htk : RKeys (rows.take (k + 1)) = RKeys (rows.take k) ++ [x.1] := by rw [List.take_add_one, hx]; simp [RKeys]
      obtain ⟨ad, had, hload⟩ := (hrr9.keep hf25 (by simp)).load elR3 hx
      refine ⟨⟨by omega, by omega⟩, ad, had, x.1, x.2.1, x.2.2, by rw [Int.toNat_natCast]; exact hload, fun w30 h30 => ?_⟩
      subst h30
      have hfa : Fr (fun _ => False) w25 (w25.alloc (.cells (encR3 x).toArray T_cartularyref16_Row)) := .alloc _ _ _
      have hbx := boxR_cell w25 x (.refl (fun _ => False) _) (by simp) (j := 0) rfl
      refine ⟨_, boxR_run w25 x, x.1, hbx, (begins_spec x.1 front _).mono ?_⟩
      rintro e w34 ⟨rfl, hw⟩
      replace hw := hw.symm
      subst hw
      have hF34 := hf25.trans' hfa
      have ho34 := ho.keep hfa (by simp)
      refine ⟨_, rfl, fun hb => ⟨x.1, hbx, ?_⟩, fun hb => ⟨⟨k + 1, rfl, by omega, ?_, hF34⟩, by dsimp only; omega⟩⟩
      · have hln : (putAll ((RKeys (rows.take k)).filter fun p => begB p front) A).length = sl.len := by rw [ho34.len]; simp [strV]
        have hlb : (putAll ((RKeys (rows.take k)).filter fun p => begB p front) A).length ≤ 1000000 := by
          have h1 := putAll_len ((RKeys (rows.take k)).filter fun p => begB p front) A
          have h2 := List.length_filter_le (fun p => begB p front) (RKeys (rows.take k))
          rw [rkeys_len, List.length_take] at h2
          omega
        refine (rput_spec ho34.reads hln (by omega) x.1).mono ?_
        rintro e w38 ⟨l39, rfl, ho38, hf38⟩
        refine ⟨l39, rfl, ⟨k + 1, rfl, by omega, ?_, hF34.trans' hf38⟩, by dsimp only; omega⟩
        rw [htk, List.filter_append, List.filter_cons_of_pos (p := fun p => begB p front) hb, List.filter_nil, putAll_snoc]
        exact ho38.mono (hF9.trans' hF34).size
      · rw [htk, List.filter_append, List.filter_cons_of_neg (p := fun p => begB p front) (by rw [hb]; decide), List.filter_nil, List.append_nil]
        exact ho34
    · have hge := of_decide_eq_false hge
      have hk' : k = rows.length := by omega
      rw [hk', List.take_length, ← hnm] at ho
      exact ⟨sl, rfl, ho, hF9.trans' hf25⟩
end
end Go.Proofs.YtmhlmdnhpfhoeaaGreatDoor
