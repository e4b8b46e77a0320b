/- (*Snap).Get and (*Snap).List. Conditions: texts are no longer than memory. -/
import Derived.Test.YtmihbbgojkbaeaaDoorSnapD
set_option linter.unusedVariables false
namespace Go.Proofs.YtmihbbgojkbaeaaDoor
open Go Vc Go.Proofs

theorem cut_sz (s : ByteArray) (c : UInt8) : (cutS s c).1.size + (cutS s c).2.1.size ≤ s.size ∧ ((cutS s c).2.2 = true → (cutS s c).1.size + (cutS s c).2.1.size + 1 = s.size) := by
  unfold cutS
  rcases fnd_cases s c with ⟨h, _⟩ | ⟨i, h, hi, _⟩
  · rw [h, if_pos rfl]
    refine ⟨?_, fun h => by cases h⟩
    show s.size + 0 ≤ s.size
    omega
  · rw [h, if_neg (by omega), Int.toNat_natCast]
    simp only [ByteArray.size_extract]
    exact ⟨by omega, fun _ => by omega⟩
def getE (xs : List FileE) (p : ByteArray) : ByteArray × Int := match xs.find? (fun x => decide (x.path = p)) with
  | some x => (x.data, 0)
  | none => (⟨#[]⟩, 7)
theorem get_spec {w : World} {b : Nat} {l : Sl} {xs : List FileE} {size : Int} (h : IsSnap w b l xs size) (hs : Rising xs) (p : ByteArray) : Calls Tryd.prog F_snap_Snap_Get #[.pointer (some ⟨b, 0, none⟩), .string p] w fun e w' =>
    e = .returned (.tuple #[.string (getE xs p).1, .int .i64 (getE xs p).2]) ∧ Fr (fun _ => False) w w' := by
  refine vc_snap_Snap_Get_ok (R := fun v w' => v = .tuple #[.string (getE xs p).1, .int .i64 (getE xs p).2] ∧ Fr (fun _ => False) w w') ?_ (fun v w' h => ⟨by rw [h.1], h.2⟩)
  have hsm := h.small
  have hlen := h.len
  refine ⟨l, h.files, (search_spec h.reads h.len (by omega) hs ⟨p, ⟨#[]⟩⟩).mono ?_⟩
  rintro e w3 ⟨i, hin, rfl, hiff, hf3⟩
  refine ⟨_, _, rfl, fun hb => ?_, fun hb => ⟨l, (h.keep hf3).files, ?_⟩⟩
  · have hno : xs.find? (fun x => decide (x.path = p)) = none := by
      rw [List.find?_eq_none]
      intro x hx
      rw [decide_eq_true_eq]
      intro he
      obtain ⟨k, hk⟩ := List.mem_iff_getElem?.1 hx
      have hnl : ¬ k < i := fun h => by
        have := (hiff k x hk).2 h
        rw [he] at this; exact List.lt_irrefl _ this
      have hil : i < xs.length := by have := (List.getElem?_eq_some_iff.1 hk).1; omega
      have hy : xs[i]? = some xs[i] := List.getElem?_eq_getElem hil
      generalize xs[i] = y at hy
      rw [hy] at hb
      have hyp : y.path ≠ p := by simpa using hb
      have h1 : ¬ y.path.data.toList < p.data.toList := fun h => by have := (hiff i y hy).1 h; omega
      by_cases hki : k = i
      · subst hki; rw [hy] at hk; cases hk; exact hyp he
      · have h2 := (List.pairwise_iff_getElem.1 hs) i k hil (List.getElem?_eq_some_iff.1 hk).1 (by omega)
        rw [(List.getElem?_eq_some_iff.1 hk).2, (List.getElem?_eq_some_iff.1 hy).2, he] at h2
        rcases lt_tri y.path.data.toList p.data.toList with h3 | h3 | h3
        · exact h1 h3
        · exact hyp (bs_ext h3)
        · exact h2 h3
    unfold getE
    rw [hno]
    exact ⟨rfl, hf3⟩
  · cases hxi : xs[i]? with
    | none => rw [hxi] at hb; simp at hb
    | some x =>
      rw [hxi] at hb
      have hxp : x.path = p := by simpa using hb
      have hil := (List.getElem?_eq_some_iff.1 hxi).1
      obtain ⟨ad, had, hc⟩ := (h.keep hf3).reads i x hxi
      have hc1 : w3.cell? ((ad.add (i * 2)).add 1) = some (.string x.data) := hc 1 (.string x.data) rfl
      refine ⟨⟨by omega, by omega⟩, ad, had, x.data, by rw [Int.toNat_natCast]; exact hc1, ?_, hf3⟩
      have hfd : ∃ y, xs.find? (fun x => decide (x.path = p)) = some y ∧ y.path = p ∧ ∃ k, xs[k]? = some y ∧ k ≤ i := by
        cases hff : xs.find? (fun x => decide (x.path = p)) with
        | none => exact absurd (List.find?_eq_none.1 hff x (List.mem_of_getElem? hxi)) (by simp [hxp])
        | some y =>
          obtain ⟨h1, k, hk, h2, h3⟩ := List.find?_eq_some_iff_getElem.1 hff
          refine ⟨y, rfl, of_decide_eq_true h1, k, by rw [List.getElem?_eq_getElem hk, h2], ?_⟩
          by_cases hki : k ≤ i
          · exact hki
          · have := h3 i (by omega)
            rw [(List.getElem?_eq_some_iff.1 hxi).2] at this
            simp [hxp] at this
      obtain ⟨y, hy1, hy2, k, hk, hki⟩ := hfd
      have hke : k = i := by
        by_cases hlt : k < i
        · have := (hiff k y hk).2 hlt
          rw [hy2] at this; exact absurd this (List.lt_irrefl _)
        · omega
      subst hke
      rw [hxi] at hk; cases hk
      unfold getE
      rw [hy1]
def putName (o : List ByteArray) (x : ByteArray) : List ByteArray := if o.getLast? = some x then o else o ++ [x]
def nameE (front p : ByteArray) : ByteArray := if (cutS (p.extract front.size p.size) 47).2.2 = true then (cutS (p.extract front.size p.size) 47).1 ++ ⟨#[47]⟩ else (cutS (p.extract front.size p.size) 47).1
def namesE (front : ByteArray) (ps : List ByteArray) : List ByteArray := ps.foldl (fun o p => putName o (nameE front p)) []
theorem namesE_snoc (front : ByteArray) (ps : List ByteArray) (p : ByteArray) : namesE front (ps ++ [p]) = putName (namesE front ps) (nameE front p) := by
  unfold namesE; rw [List.foldl_append]; rfl
theorem putName_len (o : List ByteArray) (x : ByteArray) : (putName o x).length ≤ o.length + 1 := by
  unfold putName
  split
  · omega
  · simp
theorem namesE_len (front : ByteArray) (ps : List ByteArray) : (namesE front ps).length ≤ ps.length := by
  have : ∀ (ps o : List ByteArray), (ps.foldl (fun o p => putName o (nameE front p)) o).length ≤ o.length + ps.length := by
    intro ps
    induction ps with
    | nil => intro o; simp
    | cons p r ih =>
      intro o
      have h1 := ih (putName o (nameE front p))
      have h2 := putName_len o (nameE front p)
      simp only [List.foldl_cons, List.length_cons]
      omega
  have := this ps []
  simpa [namesE] using this
def frontE (folder : ByteArray) : ByteArray := if folder = ⟨#[]⟩ then ⟨#[]⟩ else folder ++ ⟨#[47]⟩
def listE (ys : List FileE) (folder : ByteArray) : List ByteArray × Int :=
  if folder ≠ ⟨#[]⟩ ∧ cleanB folder = false then ([], 4)
  else if namesE (frontE folder) (underE ys (frontE folder)) = [] ∧ folder ≠ ⟨#[]⟩ then ([], 7) else (namesE (frontE folder) (underE ys (frontE folder)), 0)
theorem list_spec {w : World} {b : Nat} {l : Sl} {xs : List FileE} {size : Int} (h : IsSnap w b l xs size) (hs : Rising xs) (hp : ∀ x ∈ xs, x.path.size ≤ 140737488355328) (folder : ByteArray) (hf0 : folder.size ≤ 140737488355328) : Calls Tryd.prog F_snap_Snap_List #[.pointer (some ⟨b, 0, none⟩), .string folder] w fun e w' =>
    ∃ o, e = .returned (.tuple #[.slice o.a o.len o.cap, .int .i64 (listE xs folder).2]) ∧ Vc.Own w' w.heap.size T_string o (strV (listE xs folder).1) ∧ Fr (fun _ => False) w w' := by
  refine vc_snap_Snap_List_ok (R := fun v w' => ∃ o : Sl, v = .tuple #[.slice o.a o.len o.cap, .int .i64 (listE xs folder).2] ∧ Vc.Own w' w.heap.size T_string o (strV (listE xs folder).1) ∧ Fr (fun _ => False) w w') ?_ (fun v w' ⟨o, h⟩ => ⟨o, by rw [h.1], h.2⟩)
  have hne : ∀ {b : Bool}, (!(ByteArray.toList folder == ByteArray.toList ⟨#[]⟩)) = b → decide (folder ≠ ⟨#[]⟩) = b := fun h => by rw [bs_eq] at h; rw [← h]; simp
  refine ⟨fun s w' => s = frontE folder ∧ ¬ (folder ≠ ⟨#[]⟩ ∧ cleanB folder = false) ∧ Fr (fun _ => False) w w', ⟨fun hb => ?_, fun hb => ⟨?_, fun h => ?_, .refl _ _⟩⟩, ?_⟩
  · have hb := of_decide_eq_true (hne hb)
    refine (clean_spec folder hf0 w).mono ?_
    rintro e w3 ⟨rfl, hf3⟩
    refine ⟨_, rfl, fun hc => ⟨⟨none, 0, 0⟩, ?_⟩, fun hc => ⟨by rw [show (ByteArray.mk #[47]).size = 1 from rfl]; omega, ?_, fun h => ?_, hf3⟩⟩
    · have hc : cleanB folder = false := by simpa using hc
      unfold listE
      rw [if_pos ⟨hb, hc⟩]
      exact ⟨rfl, Vc.Own.nil _ _ _, hf3⟩
    · unfold frontE; rw [if_neg hb]
    · rw [h.2] at hc; cases hc
  · have hb := of_decide_eq_false (hne hb)
    unfold frontE; rw [if_pos (Decidable.not_not.1 hb)]
  · exact of_decide_eq_false (hne hb) h.1
  rintro s w6 ⟨rfl, hok, hf6⟩
  have hle : listE xs folder = if namesE (frontE folder) (underE xs (frontE folder)) = [] ∧ folder ≠ ⟨#[]⟩ then ([], 7) else (namesE (frontE folder) (underE xs (frontE folder)), 0) := by
    unfold listE; rw [if_neg hok]
  have hus : ∀ p ∈ underE xs (frontE folder), p.size ≤ 140737488355328 ∧ (frontE folder).size ≤ p.size := fun p hpm => by
    unfold underE at hpm
    obtain ⟨x, hx, rfl⟩ := List.mem_map.1 hpm
    obtain ⟨hx1, hx2⟩ := List.mem_filter.1 hx
    refine ⟨hp x hx1, ?_⟩
    have := (of_decide_eq_true hx2 : (frontE folder).data.toList <+: x.path.data.toList).length_le
    rw [bs_len, bs_len] at this; exact this
  have hul : (underE xs (frontE folder)).length ≤ 1000000 := by
    have := h.small
    have h2 := List.length_filter_le (fun x => begB x.path (frontE folder)) xs
    unfold underE
    rw [List.length_map]; omega
  refine (under_spec (h.keep hf6) hs (frontE folder)).mono ?_
  rintro e w8 ⟨l9, rfl, ho9, hf8⟩
  have hf8' := hf6.trans' hf8
  generalize underE xs (frontE folder) = us at ho9 hle hus hul
  have hlen9 : l9.len = us.length := by rw [ho9.len]; simp [strV]
  refine ⟨l9, rfl, fun o j w' => ∃ k : Nat, j = k ∧ k ≤ us.length ∧ Vc.Own w' w8.heap.size T_string o (strV (namesE (frontE folder) (us.take k))) ∧ Fr (fun _ => False) w8 w', fun _ j _ => us.length - j.toNat, ⟨0, rfl, Nat.zero_le _, Vc.Own.nil _ _ _, .refl _ _⟩, ?_⟩
  rintro o j w14 ⟨k, rfl, hk, ho, hf⟩
  have e1 : IntKind.i64.wrap ((k : Int) + 1) = ((k + 1 : Nat) : Int) := by rw [wrap_i64 (by omega) (by omega)]; omega
  rw [e1]
  have hol : o.len = (namesE (frontE folder) (us.take k)).length := by rw [ho.len]; simp [strV]
  have hnl := namesE_len (frontE folder) (us.take k)
  rw [List.length_take] at hnl
  have hf14 : Fr (fun _ => False) w w14 := hf8'.trans' hf
  refine ⟨fun hlt => ?_, fun hge => ?_⟩
  · have hlt := of_decide_eq_true hlt
    have hkl : k < us.length := by omega
    have hx : us[k]? = some us[k] := List.getElem?_eq_getElem hkl
    generalize us[k] = p at hx
    obtain ⟨hps, hfp⟩ := hus p (List.mem_of_getElem? hx)
    obtain ⟨ad, had, hc⟩ := (ho9.keep hf (by simp)).reads k (.string p) (by simp [strV, hx])
    have htk : us.take (k + 1) = us.take k ++ [p] := by rw [List.take_add_one, hx]; rfl
    refine ⟨⟨by omega, by omega⟩, ad, had, p, by rw [Int.toNat_natCast, Nat.mul_one]; exact hc, ⟨by omega, by omega⟩, (cut_spec (p.extract (frontE folder).size p.size) (by simp; omega) 47 (by decide) w14).mono ?_⟩
    rintro e w18 ⟨rfl, d18⟩
    rw [show UInt8.ofNat 47 = 47 from rfl]
    have hcs := cut_sz (p.extract (frontE folder).size p.size) 47
    have hnm : nameE (frontE folder) p = if (cutS (p.extract (frontE folder).size p.size) 47).2.2 = true then (cutS (p.extract (frontE folder).size p.size) 47).1 ++ ⟨#[47]⟩ else (cutS (p.extract (frontE folder).size p.size) 47).1 := rfl
    have hxs : (p.extract (frontE folder).size p.size).size ≤ 140737488355328 := by simp; omega
    generalize cutS (p.extract (frontE folder).size p.size) 47 = cu at hcs hnm
    obtain ⟨hd, rest, ok⟩ := cu
    simp only at hcs hnm
    have hf18 : Fr (fun _ => False) w8 w18 := hf.trans' (.drew _ d18)
    have ho18 := ho.drew d18
    refine ⟨hd, rest, ok, rfl, fun s w' => s = nameE (frontE folder) p ∧ w' = w18, ⟨fun hb => ⟨by rw [show (ByteArray.mk #[47]).size = 1 from rfl]; omega, by rw [hnm, hb, if_pos rfl], rfl⟩, fun hb => ⟨by rw [hnm, hb, if_neg (by decide)], rfl⟩⟩, ?_⟩
    rintro s w24 ⟨rfl, hw⟩
    replace hw := hw.symm
    subst hw
    have hbase : w8.heap.size ≤ w18.heap.size := hf18.size
    have add : namesE (frontE folder) (us.take (k + 1)) = namesE (frontE folder) (us.take k) ++ [nameE (frontE folder) p] → ∀ w25, w25 = w18.alloc (.cells #[.string (nameE (frontE folder) p)] 9) →
        ∃ (w26 : World) (l27 : Sl), (Builtin.append_ #[57, 57] 57 #[.slice o.a o.len o.cap, .slice (some ⟨w18.heap.size, 0, none⟩) 1 1]).run Tryd.prog w25 = .ok (.slice l27.a l27.len l27.cap) w26 ∧
          (∃ k' : Nat, ((k + 1 : Nat) : Int) = k' ∧ k' ≤ us.length ∧ Vc.Own w26 w8.heap.size T_string l27 (strV (namesE (frontE folder) (us.take k'))) ∧ Fr (fun _ => False) w8 w26) := fun he w25 h25 => by
      obtain ⟨w26, l27, hr26, ho26, hf26, _⟩ := append_one' elString ho18 (v := .string (nameE (frontE folder) p)) rfl (by simp only [strV, List.length_map, maxLen]; omega) (by simp only [strV, List.length_map]; omega) hbase h25
      refine ⟨w26, l27, hr26, k + 1, rfl, by omega, ?_, ?_⟩
      · rw [he]; simpa [strV] using ho26
      · exact hf18.trans hf26 fun q hq ⟨z, hz, e⟩ => by have := (ho18.blk hz).1; omega
    refine ⟨fun h0 w25 h25 => ?_, fun h0 => ?_⟩
    · have h0 : o.len = 0 := by simpa using h0
      have hnil : namesE (frontE folder) (us.take k) = [] := List.length_eq_zero_iff.1 (by omega)
      obtain ⟨w26, l27, hr26, hi⟩ := add (by rw [htk, namesE_snoc, hnil]; rfl) w25 h25
      exact ⟨w26, l27, hr26, hi, by dsimp only; omega⟩
    · have h0 : o.len ≠ 0 := fun e => by rw [e] at h0; simp at h0
      have e2 : IntKind.i64.wrap ((o.len : Int) - 1) = ((o.len - 1 : Nat) : Int) := by rw [wrap_i64 (by omega) (by omega)]; omega
      rw [e2]
      obtain ⟨last, hlast⟩ : ∃ x, (namesE (frontE folder) (us.take k))[o.len - 1]? = some x := ⟨_, List.getElem?_eq_getElem (by omega)⟩
      have hgl : (namesE (frontE folder) (us.take k)).getLast? = some last := by rw [List.getLast?_eq_getElem?, ← hol]; exact hlast
      obtain ⟨ad2, had2, hc2⟩ := ho18.reads (o.len - 1) (.string last) (by simp [strV, hlast])
      refine ⟨⟨by omega, by omega⟩, ad2, had2, last, by rw [Int.toNat_natCast, Nat.mul_one]; exact hc2, fun hd w30 h30 => ?_, fun hd => ⟨⟨k + 1, rfl, by omega, ?_, hf18⟩, by dsimp only; omega⟩⟩
      · have hd : last ≠ nameE (frontE folder) p := by rw [bs_eq] at hd; simpa using hd
        obtain ⟨w31, l32, hr31, hi⟩ := add (by rw [htk, namesE_snoc]; unfold putName; rw [hgl, if_neg (fun e => hd (Option.some.inj e))]) w30 h30
        exact ⟨w31, l32, hr31, hi, by dsimp only; omega⟩
      · have hd : last = nameE (frontE folder) p := by rw [bs_eq] at hd; simpa using hd
        rw [htk, namesE_snoc]
        unfold putName
        rw [hgl, if_pos (by rw [hd])]
        exact ho18
  · have hge := of_decide_eq_false hge
    have hk' : k = us.length := by omega
    rw [hk', List.take_of_length_le (Nat.le_refl _)] at ho hol
    rw [hle]
    refine ⟨fun h0 => ⟨fun hb => ⟨⟨none, 0, 0⟩, ?_⟩, fun hb => ⟨o, ?_⟩⟩, fun h0 => ⟨o, ?_⟩⟩
    · have h0 : o.len = 0 := by simpa using h0
      rw [if_pos ⟨List.length_eq_zero_iff.1 (by omega), of_decide_eq_true (hne hb)⟩]
      exact ⟨rfl, Vc.Own.nil _ _ _, hf14⟩
    · rw [if_neg (fun h => of_decide_eq_false (hne hb) h.2)]
      exact ⟨rfl, ho.mono hf8'.size, hf14⟩
    · have h0 : o.len ≠ 0 := fun e => by rw [e] at h0; simp at h0
      rw [if_neg (fun h => h0 (by rw [hol, h.1]; rfl))]
      exact ⟨rfl, ho.mono hf8'.size, hf14⟩
end Go.Proofs.YtmihbbgojkbaeaaDoor
