/- References: what is listed, in plain and walked. Conditions: as named. -/
import Derived.Test.YtmhlmdnhpfhoeaaGreatDoorRefPQ
import Derived.Test.YtmhlmdnhpfhoeaaGreatDoorRiseS
import Derived.Test.YtmhlmdnhpfhoeaaGreatDoorVcSls
import Derived.Test.YtmhlmdnhpfhoeaaGreatDoorRefsN
set_option linter.unusedVariables false
namespace Go.Proofs.YtmhlmdnhpfhoeaaGreatDoor
open Go Vc HexM Go.Proofs

def putAll (us o : List ByteArray) : List ByteArray := us.foldl (fun o p => putR p false o) o
theorem putAll_rise : ∀ (us o : List ByteArray), RiseB o → RiseB (putAll us o) ∧ ∀ p, p ∈ putAll us o ↔ p ∈ o ∨ p ∈ us
  | [], o, h => ⟨h, fun p => by simp [putAll]⟩
  | u :: us, o, h => by
    obtain ⟨h1, h2⟩ := putR_rise u o h
    obtain ⟨h3, h4⟩ := putAll_rise us _ h1
    refine ⟨h3, fun p => ?_⟩
    show p ∈ putAll us (putR u false o) ↔ _
    rw [h4, h2, List.mem_cons]
    constructor
    · rintro ((h | h) | h)
      · exact .inr (.inl h)
      · exact .inl h
      · exact .inr (.inr h)
    · rintro (h | h | h)
      · exact .inl (.inr h)
      · exact .inl (.inl h)
      · exact .inr h
theorem putAll_len : ∀ (us o : List ByteArray), (putAll us o).length ≤ us.length + o.length
  | [], o => by simp [putAll]
  | u :: us, o => by
    have h1 := putR_len u false o
    have h2 := putAll_len us (putR u false o)
    show (putAll us (putR u false o)).length ≤ _
    rw [List.length_cons]; omega
def RKeys (rows : List RowE) : List ByteArray := rows.map (·.1)
/-- The names that are listed. -/
def namesU (ys : List FileE) (rows : List RowE) (front : ByteArray) : List ByteArray := ((underE ys sRefs).filter fun p => nameB p && begB p front) ++ (RKeys rows).filter fun p => begB p front
def namesE (ys : List FileE) (rows : List RowE) (front : ByteArray) : List ByteArray := putAll (namesU ys rows front) []
theorem namesE_rise (ys : List FileE) (rows : List RowE) (front : ByteArray) : RiseB (namesE ys rows front) ∧ ∀ p, p ∈ namesE ys rows front ↔ p ∈ namesU ys rows front := by
  obtain ⟨h1, h2⟩ := putAll_rise (namesU ys rows front) [] List.Pairwise.nil
  exact ⟨h1, fun p => by rw [namesE, h2]; simp⟩
theorem namesE_of {ys : List FileE} {rows : List RowE} {front : ByteArray} {l : List ByteArray} (h : RiseB l) (hm : ∀ p, p ∈ l ↔ p ∈ namesU ys rows front) : l = namesE ys rows front := by
  obtain ⟨h1, h2⟩ := namesE_rise ys rows front
  exact rise_eq h h1 fun p => by rw [hm, h2]
theorem mem_namesU {ys : List FileE} {rows : List RowE} {front p : ByteArray} : p ∈ namesU ys rows front ↔ ((p ∈ underE ys sRefs ∧ nameB p = true) ∨ p ∈ RKeys rows) ∧ begB p front = true := by
  unfold namesU
  rw [List.mem_append, List.mem_filter, List.mem_filter, Bool.and_eq_true]
  constructor
  · rintro (⟨h1, h2, h3⟩ | ⟨h1, h2⟩)
    · exact ⟨.inl ⟨h1, h2⟩, h3⟩
    · exact ⟨.inr h1, h2⟩
  · rintro ⟨⟨h1, h2⟩ | h1, h3⟩
    · exact .inl ⟨h1, h2, h3⟩
    · exact .inr ⟨h1, h3⟩
theorem namesE_front (ys : List FileE) (rows : List RowE) (front : ByteArray) : namesE ys rows front = (namesE ys rows ⟨#[]⟩).filter fun p => begB p front := by
  obtain ⟨h1, h2⟩ := namesE_rise ys rows ⟨#[]⟩
  refine (namesE_of (h1.sublist List.filter_sublist) fun p => ?_).symm
  rw [List.mem_filter, h2, mem_namesU, mem_namesU]
  have : begB p ⟨#[]⟩ = true := by unfold begB; exact decide_eq_true List.nil_prefix
  constructor
  · rintro ⟨⟨h, _⟩, h3⟩; exact ⟨h, h3⟩
  · rintro ⟨h, h3⟩; exact ⟨⟨h, this⟩, h3⟩
theorem rlook_keys (k : ByteArray) : ∀ rows : List RowE, (rlook rows k).isSome = true ↔ k ∈ RKeys rows
  | [] => by simp [rlook, RKeys]
  | (a, v) :: rs => by
    rw [rlook, RKeys, List.map_cons, List.mem_cons]
    by_cases h : a = k
    · rw [if_pos h]; simp [h]
    · rw [if_neg h, rlook_keys k rs]
      exact ⟨fun h => .inr h, fun hh => hh.resolve_left fun e => h e.symm⟩
theorem rupd_keys (k : ByteArray) (v : ByteArray × ByteArray) : ∀ rows : List RowE, (k ∈ RKeys rows → RKeys (rupd rows k v) = RKeys rows) ∧ (k ∉ RKeys rows → RKeys (rupd rows k v) = RKeys rows ++ [k])
  | [] => ⟨fun h => by simp [RKeys] at h, fun _ => rfl⟩
  | (a, u) :: rs => by
    obtain ⟨i1, i2⟩ := rupd_keys k v rs
    rw [rupd]
    by_cases h : a = k
    · rw [if_pos h]
      refine ⟨fun _ => by simp [RKeys, h], fun hh => absurd ?_ hh⟩
      simp [RKeys, h]
    · rw [if_neg h]
      have : (k ∈ RKeys ((a, u) :: rs)) ↔ k ∈ RKeys rs := by
        show k ∈ a :: RKeys rs ↔ _
        rw [List.mem_cons]
        exact ⟨fun hh => hh.resolve_left fun e => h e.symm, .inr⟩
      rw [this]
      refine ⟨fun hk => ?_, fun hk => ?_⟩
      · show a :: RKeys (rupd rs k v) = _
        rw [i1 hk]; rfl
      · show a :: RKeys (rupd rs k v) = _
        rw [i2 hk]; rfl
/-- What an index of references holds: names of references, each once, of at most 2000. -/
structure RowsOK (rows : List RowE) : Prop where
  names : ∀ k ∈ RKeys rows, nameB k = true ∧ k ≠ sHEAD
  once : (RKeys rows).Nodup
  few : rows.length ≤ 2000
theorem rkeys_len (rows : List RowE) : (RKeys rows).length = rows.length := by simp [RKeys]
theorem openF_ok : ∀ (f : Nat) (s : ByteArray) (rows : List RowE) (last : ByteArray) (res : List RowE), RowsOK rows → openF f s rows last = .ok res → RowsOK res
  | 0, s, rows, last, res, h, ho => by
    rw [openF] at ho; cases ho; exact h
  | f + 1, s, rows, last, res, h, ho => by
    rw [openF] at ho
    split at ho
    · cases ho; exact h
    split at ho
    · cases ho
    split at ho
    · exact openF_ok f _ _ _ _ h ho
    split at ho
    · cases hx : rlook rows last with
      | none => rw [hx] at ho; cases ho
      | some x =>
        rw [hx] at ho
        simp only at ho
        split at ho
        · cases ho
        split at ho
        · cases ho
        refine openF_ok f _ _ _ _ ?_ ho
        have hk : last ∈ RKeys rows := (rlook_keys last rows).1 (by rw [hx]; rfl)
        have he := (rupd_keys last (x.1, cutPre (cutS s 10).1 ⟨#[94]⟩) rows).1 hk
        exact ⟨by rw [he]; exact h.names, by rw [he]; exact h.once, by rw [← rkeys_len, he, rkeys_len]; exact h.few⟩
    split at ho
    · cases ho
    split at ho
    · cases ho
    split at ho
    · cases ho
    split at ho
    · cases ho
    split at ho
    · cases ho
    split at ho
    · cases ho
    rename_i hid hnm hhd hlk hln
    refine openF_ok f _ _ _ _ ?_ ho
    have hk : (cutS (cutS s 10).1 32).2.1 ∉ RKeys rows := fun hh => hlk ((rlook_keys _ rows).2 hh)
    have he := (rupd_keys (cutS (cutS s 10).1 32).2.1 ((cutS (cutS s 10).1 32).1, ⟨#[]⟩) rows).2 hk
    refine ⟨fun k hkm => ?_, ?_, ?_⟩
    · rw [he, List.mem_append, List.mem_singleton] at hkm
      rcases hkm with hkm | rfl
      · exact h.names k hkm
      · exact ⟨by simpa using hnm, hhd⟩
    · rw [he]
      refine List.nodup_append.2 ⟨h.once, by simp, fun a ha b hb e => ?_⟩
      rw [List.mem_singleton] at hb
      subst hb e
      exact hk ha
    · rw [← rkeys_len, he, List.length_append, rkeys_len]
      simp only [List.length_singleton]; omega
theorem openE_ok {ys : List FileE} {rows : List RowE} (h : openE ys = .ok rows) : RowsOK rows := by
  have h0 : RowsOK [] := ⟨by simp [RKeys], by simp [RKeys], by simp⟩
  unfold openE at h
  split at h
  · cases h; exact h0
  · exact openF_ok _ _ _ _ _ h0 h
theorem openF_err : ∀ (f : Nat) (s : ByteArray) (rows : List RowE) (last : ByteArray) (n : Int), openF f s rows last = .error n → n ≠ 0
  | 0, s, rows, last, n, ho => by rw [openF] at ho; cases ho
  | f + 1, s, rows, last, n, ho => by
    rw [openF] at ho
    repeat' split at ho
    all_goals first | (cases ho; decide) | exact openF_err f _ _ _ _ ho | cases ho
theorem openE_err {ys : List FileE} {n : Int} (h : openE ys = .error n) : n ≠ 0 := by
  unfold openE at h
  split at h
  · cases h
  · exact openF_err _ _ _ _ _ h
theorem name_head {p : ByteArray} (h : begB p sRefs = true) : p ≠ sHEAD := fun e => by
  rw [e] at h; revert h; decide
theorem mem_under {ys : List FileE} {front p : ByteArray} (h : p ∈ underE ys front) : begB p front = true := (under_mem h).1
/-- What is listed is a reference's name. -/
theorem names_all {ys : List FileE} {rows : List RowE} (hR : RowsOK rows) {front p : ByteArray} (h : p ∈ namesE ys rows front) : nameB p = true ∧ p ≠ sHEAD := by
  rcases (mem_namesU.1 (((namesE_rise ys rows front).2 p).1 h)).1 with ⟨h1, h2⟩ | h1
  · exact ⟨h2, name_head (mem_under h1)⟩
  · exact hR.names p h1
theorem getE_err (ys : List FileE) (p : ByteArray) : (getE ys p).2 = 0 ∨ ((getE ys p).2 = 7 ∧ (getE ys p).1 = ⟨#[]⟩) := by
  unfold getE
  cases ys.find? (fun x => decide (x.path = p)) with
  | none => exact .inr ⟨rfl, rfl⟩
  | some x => exact .inl rfl
theorem fileE_err (ys : List FileE) (p : ByteArray) : (fileE ys p).2.2 = 0 ∨ (fileE ys p).2.2 = 3 ∨ ((fileE ys p).2.2 = 7 ∧ (getE ys p).2 = 7) := by
  unfold fileE
  rcases getE_err ys p with h | ⟨h, _⟩
  · rw [if_neg (fun hh => hh h)]
    repeat' split
    all_goals first | exact .inl rfl | exact .inr (.inl rfl)
  · rw [if_pos (by rw [h]; decide)]
    exact .inr (.inr ⟨h, h⟩)
theorem lookF_form (ys : List FileE) (rows : List RowE) : ∀ (f : Nat) (p : ByteArray), (lookF ys rows f p).2 ≠ 4
  | f, p => by
    rw [lookF_eq]
    split
    · cases rlook rows p <;> simp
    split
    · rcases fileE_err ys p with h | h | ⟨h, _⟩ <;> simp only [h] <;> decide
    · cases f with
      | zero => simp
      | succ f => exact lookF_form ys rows f _
/-- What a packed reference's tag leads to. -/
def peelE (ys : List FileE) (rows : List RowE) (p : ByteArray) : ByteArray := if (getE ys p).2 = 0 then ⟨#[]⟩ else ((rlook rows p).map (·.2)).getD ⟨#[]⟩
theorem peel_look {ys : List FileE} {rows : List RowE} {p : ByteArray} (hn : nameB p = true) (h : peelE ys rows p ≠ ⟨#[]⟩) : (lookE ys rows p).2 = 0 := by
  unfold peelE at h
  rcases getE_err ys p with h0 | ⟨h0, _⟩
  · rw [if_pos h0] at h; exact absurd rfl h
  · rw [if_neg (by rw [h0]; decide)] at h
    have hf : (fileE ys p).2.2 = 7 := by unfold fileE; rw [if_pos (by rw [h0]; decide)]; exact h0
    unfold lookE
    rw [if_neg (by rw [hn]; decide), lookF_eq, if_pos hf]
    cases hx : rlook rows p with
    | none => rw [hx] at h; exact absurd rfl h
    | some x => rfl
end Go.Proofs.YtmhlmdnhpfhoeaaGreatDoor
namespace Go.Proofs.YtmhlmdnhpfhoeaaGreatDoor
open Go Vc HexM Go.Proofs

theorem own_ne {w : World} {base : Nat} {e : TypeId} {l : Sl} {xs : List Value} {k : Nat} {o : Obj} (h : Vc.Own w base e l xs) (hk : w.heap[k]? = some o) (ho : ∀ cs t fz, o ≠ .cells cs t fz) : ∀ x, l.a = some x → x.block ≠ k := by
  intro x hx e
  rcases h.2 with ⟨hn, _⟩ | ⟨g, cur, ha, _, hg, _⟩
  · rw [hn] at hx; cases hx
  · rw [ha] at hx; cases hx
    rw [← e] at hk
    simp only at hk
    rw [hg] at hk
    exact ho _ _ _ (Option.some.inj hk).symm
theorem mapit_apart {w : World} {it mb : Nat} {m ys : List (ByteArray × Value)} (hi : MapIt w it mb m ys) {base : Nat} {e : TypeId} {l : Sl} {xs : List Value} (h : Vc.Own w base e l xs) : (∀ x, l.a = some x → x.block ≠ it) ∧ ∀ x, l.a = some x → x.block ≠ mb := by
  obtain ⟨es, clock, since, c0, seen, a, b, _⟩ := hi
  exact ⟨own_ne h a (fun _ _ _ e => by cases e), own_ne h b (fun _ _ _ e => by cases e)⟩
section
variable {w : World} {rb b mb : Nat} {l : Sl} {ys : List FileE} {size : Int} {rows : List RowE}
theorem peeled_spec (hr : IsRefs w rb b mb rows) (h : IsSnap w b l ys size) (hs : Rising ys) (name : ByteArray) : Calls Tryz.prog F_refs_Refs_Peeled #[.pointer (some ⟨rb, 0, none⟩), .string name] w fun e w' =>
    e = .returned (.string (peelE ys rows name)) ∧ Fr (fun _ => False) w w' := by
  refine vc_refs_Refs_Peeled_ok (R := fun v w' => v = .string (peelE ys rows name) ∧ Fr (fun _ => False) w w') ?_ (fun v w' h => ⟨by rw [h.1], h.2⟩)
  refine ⟨_, by rw [cell_blk hr.blk]; rfl, (get_spec h hs name).mono ?_⟩
  rintro e w3 ⟨rfl, hf3⟩
  have hE : peelE ys rows name = if (getE ys name).2 = 0 then ⟨#[]⟩ else ((rlook rows name).map (·.2)).getD ⟨#[]⟩ := rfl
  refine ⟨_, _, rfl, fun h0 => ⟨by rw [hE, if_pos (by simpa using h0)], hf3⟩, fun h0 => ?_⟩
  rw [if_neg (by simpa using h0)] at hE
  have hm3 := hr.rows.keep hf3 (by simp)
  have hlk := map_lookup (P := Tryz.prog) (mt := T_map_string_refs_row) (kt := T_string) (et := T_refs_row) (by kernel_rfl) (by kernel_rfl) (row_zero w3) hm3 name false
  rw [mlook_rows] at hlk
  refine ⟨_, by rw [cell_blk (hf3.keep hr.blk (by simp))]; rfl, w3, ?_⟩
  cases hx : rlook rows name with
  | none =>
    rw [hx] at hlk hE
    exact ⟨_, _, hlk, by rw [hE]; rfl, hf3⟩
  | some x =>
    rw [hx] at hlk hE
    exact ⟨_, _, hlk, by rw [hE]; rfl, hf3⟩
theorem names_spec (hml : MaxL w) (hr : IsRefs w rb b mb rows) (h : IsSnap w b l ys size) (hs : Rising ys) (hp : ∀ x ∈ ys, x.path.size ≤ 140737488355328) (hrl : rows.length ≤ 400000) (hyl : ys.length ≤ 400000) (front : ByteArray) : Calls Tryz.prog F_refs_Refs_Names #[.pointer (some ⟨rb, 0, none⟩), .string front] w fun e w' =>
    ∃ o, e = .returned (.slice o.a o.len o.cap) ∧ Vc.Own w' w.heap.size T_string o (strV (namesE ys rows front)) ∧ Fr (fun _ => False) w w' := by
  refine vc_refs_Refs_Names_ok (R := fun v w' => ∃ o : Sl, v = .slice o.a o.len o.cap ∧ Vc.Own w' w.heap.size T_string o (strV (namesE ys rows front)) ∧ Fr (fun _ => False) w w') ?_ (fun v w' ⟨o, h⟩ => ⟨o, by rw [h.1], h.2⟩)
  refine ⟨_, by rw [cell_blk hr.blk]; rfl, (under_spec h hs sRefs).mono ?_⟩
  rintro e w3 ⟨u, rfl, hu, hf3⟩
  have hur := hu.reads
  have hul := hu.len
  have hus : (underE ys sRefs).length ≤ 500000 := by
    unfold underE
    rw [List.length_map]
    exact Nat.le_trans (List.length_filter_le _ _) (by omega)
  have hup : ∀ p ∈ underE ys sRefs, p.size ≤ 140737488355328 := fun p hpm => by
    obtain ⟨_, y, hy, rfl⟩ := under_mem hpm
    exact hp y hy
  have hnm : namesU ys rows front = ((underE ys sRefs).filter fun p => nameB p && begB p front) ++ (RKeys rows).filter fun p => begB p front := rfl
  generalize hU : underE ys sRefs = us at hu hur hul hus hup hnm
  simp only [strV, List.length_map] at hul
  refine ⟨u, rfl, fun sl i w' => ∃ k : Nat, i = k ∧ k ≤ us.length ∧ Vc.Own w' w3.heap.size T_string sl (strV ((us.take k).filter fun p => nameB p && begB p front)) ∧ Fr (fun _ => False) w3 w', fun _ i _ => us.length - i.toNat,
    ⟨0, rfl, Nat.zero_le _, Vc.Own.nil _ _ _, .refl _ _⟩, ?_⟩
  rintro sl i w9 ⟨k, rfl, hk, ho, hf9⟩
  have e1 : IntKind.i64.wrap ((k : Int) + 1) = ((k + 1 : Nat) : Int) := by rw [wrap_i64 (by omega) (by omega)]; omega
  rw [e1]
  refine ⟨fun hlt => ?_, fun hge => ?_⟩
  · have hlt := of_decide_eq_true hlt
    have hkl : k < us.length := by omega
    have hx : us[k]? = some us[k] := List.getElem?_eq_getElem hkl
    have hxm : us[k] ∈ us := List.getElem_mem hkl
    generalize us[k] = x at hx hxm
    have htk : us.take (k + 1) = us.take k ++ [x] := by rw [List.take_add_one, hx]; rfl
    obtain ⟨ad, had, hc⟩ := hur k (.string x) (by simp [strV, hx])
    refine ⟨⟨by omega, by omega⟩, ad, had, x, by rw [Int.toNat_natCast, Nat.mul_one]; exact hf9.cell hc (by simp), (name_spec x (hup x hxm) (hml.keep (hf3.trans' hf9))).mono ?_⟩
    rintro e w13 ⟨rfl, hf13⟩
    have hF13 := hf9.trans' hf13
    have ho13 := ho.keep hf13 (by simp)
    have hno : (nameB x && begB x front) = false → ∃ k' : Nat, ((k + 1 : Nat) : Int) = k' ∧ k' ≤ us.length ∧ Vc.Own w13 w3.heap.size T_string sl (strV ((us.take k').filter fun p => nameB p && begB p front)) ∧ Fr (fun _ => False) w3 w13 := fun hh => by
      refine ⟨k + 1, rfl, by omega, ?_, hF13⟩
      rw [htk, List.filter_append, List.filter_cons_of_neg (by rw [hh]; decide), List.filter_nil, List.append_nil]
      exact ho13
    refine ⟨_, rfl, fun hn => (hasPrefix_spec x front w13).mono ?_, fun hn => ⟨hno (by rw [hn]; rfl), by dsimp only; omega⟩⟩
    rintro e w16 ⟨rfl, hw⟩
    replace hw := hw.symm
    subst hw
    refine ⟨_, rfl, fun hb w18 h18 => ?_, fun hb => ⟨hno (by rw [hb, Bool.and_false]), by dsimp only; omega⟩⟩
    obtain ⟨w19, l20, hr19, ho19, hf19⟩ := grow_str x (by have := List.length_filter_le (fun p => nameB p && begB p front) (us.take k); rw [List.length_take] at this; omega) ho13 hF13 h18
    refine ⟨w19, l20, hr19, ⟨k + 1, rfl, by omega, ?_, hf19⟩, by dsimp only; omega⟩
    rw [htk, List.filter_append, List.filter_cons_of_pos (by rw [hn, hb]; rfl), List.filter_nil]
    exact ho19
  · have hge := of_decide_eq_false hge
    have hk' : k = us.length := by omega
    rw [hk', List.take_length] at ho
    generalize hA : (us.filter fun p => nameB p && begB p front) = A at ho hnm
    have hAl : A.length ≤ 500000 := by rw [← hA]; exact Nat.le_trans (List.length_filter_le _ _) hus
    have hF9 := hf3.trans' hf9
    have hr9 := hr.keep hF9
    obtain ⟨hrg, hit⟩ := MapIt.new (P := Tryz.prog) (mt := T_map_string_refs_row) (kt := T_string) (et := T_refs_row) (by kernel_rfl) hr9.rows
    refine ⟨_, by rw [cell_blk hr9.blk]; rfl, _, _, hrg, ?_⟩
    have hfa : Fr (fun _ => False) w9 (w9.alloc (.mapIter (some mb) (match w9.heap[mb]? with | some (.map _ c) => c | _ => 0) #[] (match w9.heap[mb]? with | some (.map _ c) => c | _ => 0))) := .alloc _ _ _
    generalize w9.alloc (.mapIter (some mb) (match w9.heap[mb]? with | some (.map _ c) => c | _ => 0) #[] (match w9.heap[mb]? with | some (.map _ c) => c | _ => 0)) = w22 at hit hfa
    have hlt9 : w3.heap.size ≤ w9.heap.size := hf9.size
    generalize w9.heap.size = it at hit hlt9
    have hmb : mb < w3.heap.size := Nat.lt_of_lt_of_le hr.rows.lt hf3.size
    refine ⟨fun sl w' => ∃ todo done, MapIt w' it mb (rows.map encR) todo ∧ (done ++ todo).Perm (rows.map encR) ∧ Vc.Own w' w3.heap.size T_string sl (strV (A ++ (done.map (·.1)).filter fun p => begB p front)) ∧ Fr (fun _ => False) w3 w', fun _ w' => mapLeft it mb w',
      ⟨rows.map encR, [], hit, List.Perm.refl _, by simpa using ho.keep hfa (by simp), hf9.trans' hfa⟩, ?_⟩
    clear hrg hit hfa ho w22
    rintro sl w27 ⟨todo, done, hit, hperm, ho, hf27⟩
    obtain ⟨ap1, ap2⟩ := mapit_apart hit ho
    have hdl : done.length ≤ rows.length := by
      have := hperm.length_eq
      rw [List.length_append, List.length_map] at this; omega
    have hcl : (A ++ (done.map (·.1)).filter fun p => begB p front).length ≤ 1000000 := by
      have h1 := List.length_filter_le (fun p => begB p front) (done.map (·.1))
      rw [List.length_map] at h1
      rw [List.length_append]; omega
    rcases hit.next (P := Tryz.prog) 0 with ⟨rfl, hrun⟩ | ⟨pre, x, post, w28, rfl, hrun, hit28, hf28, hent⟩
    · refine .inl ⟨w27, hrun, fun h => (by cases h), fun _ => (sortS_spec ho hcl).mono ?_⟩
      rintro e w39 ⟨rfl, zs, hzp, hzn, ho39, hf39⟩
      have hzl : zs.length ≤ 1000000 := by rw [hzp.length_eq]; exact hcl
      refine ⟨rfl, (compactS_spec ho39 hzl hzn).mono ?_⟩
      rintro e w41 ⟨l', vs, rfl, hrise, hmem, ho41, hf41⟩
      have hfin : vs = namesE ys rows front := by
        refine namesE_of hrise fun p => ?_
        rw [hmem, hzp.mem_iff, hnm, List.mem_append, List.mem_append, List.mem_filter, List.mem_filter]
        have hk : p ∈ done.map (·.1) ↔ p ∈ RKeys rows := by
          rw [List.append_nil] at hperm
          rw [(hperm.map (·.1)).mem_iff, List.map_map]
          exact Iff.rfl
        rw [hk]
      rw [← hfin]
      refine ⟨l', rfl, l', rfl, ho41.mono hf3.size, ?_⟩
      have hb : ∀ q, q < w.heap.size → ¬ At sl q := fun q hq ⟨z, hz, e⟩ => by
        have h1 := (ho.blk hz).1
        have h2 := hf3.size
        omega
      exact ((hf3.trans' hf27).trans hf39 fun q hq e => hb q hq e).trans hf41 fun q hq e => hb q hq e
    · have hF28 : Fr (fun _ => False) w3 w28 := hf27.trans hf28 fun q hq e => by omega
      have ho28 := ho.keep hf28 ap1
      have hleft : mapLeft it mb w27 = (pre ++ x :: post).length := hit.left
      refine .inr ⟨w28, _, _, hrun, fun _ => ⟨w28, x.1, x.2, hent, (hasPrefix_spec x.1 front w28).mono ?_⟩, fun h => by cases h⟩
      rintro e w50 ⟨rfl, hw⟩
      replace hw := hw.symm
      subst hw
      have hperm' : (done ++ [x] ++ (pre ++ post)).Perm (rows.map encR) := by
        refine List.Perm.trans ?_ hperm
        rw [List.append_assoc]
        refine List.Perm.append_left done ?_
        exact (List.perm_middle (a := x) (l₁ := pre) (l₂ := post)).symm
      refine ⟨_, rfl, fun hb w52 h52 => ?_, fun hb => ⟨⟨pre ++ post, done ++ [x], hit28, hperm', ?_, hF28⟩, ?_⟩⟩
      · obtain ⟨w53, l54, hr53, ho53, hf53, _⟩ := append_one' elString ho28 (v := .string x.1) rfl (by simp only [strV, List.length_map, maxLen]; omega) (by simp only [strV, List.length_map]; omega) hF28.size h52
        have hap := mapit_apart hit28 ho28
        have hb0 : ∀ q, q < w3.heap.size → ¬ At sl q := fun q hq ⟨z, hz, e⟩ => by
          have h1 := (ho28.blk hz).1
          omega
        have hit53 := hit28.keep hf53 (fun ⟨z, hz, e⟩ => hap.1 z hz e.symm) (fun ⟨z, hz, e⟩ => hap.2 z hz e.symm)
        refine ⟨w53, l54, hr53, ⟨pre ++ post, done ++ [x], hit53, hperm', ?_, hF28.trans hf53 fun q hq e => hb0 q hq e⟩, ?_⟩
        · rw [List.map_append, List.filter_append]
          have : ([x].map (·.1)).filter (fun p => begB p front) = [x.1] := by simp [hb]
          rw [this, ← List.append_assoc]
          simpa [strV] using ho53
        · show mapLeft it mb w53 < mapLeft it mb w27
          rw [hleft, hit53.left]
          simp
      · rw [List.map_append, List.filter_append]
        have : ([x].map (·.1)).filter (fun p => begB p front) = [] := by simp [hb]
        rw [this, List.append_nil]
        exact ho28
      · show mapLeft it mb w28 < mapLeft it mb w27
        rw [hleft, hit28.left]
        simp
end
end Go.Proofs.YtmhlmdnhpfhoeaaGreatDoor
