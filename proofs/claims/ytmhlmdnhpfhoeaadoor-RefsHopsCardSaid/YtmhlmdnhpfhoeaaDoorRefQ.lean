/- References: a file, what is looked up, what a tag leads to. Conditions: as named. -/
import Derived.Test.YtmhlmdnhpfhoeaaDoorRefP
set_option linter.unusedVariables false
namespace Go.Proofs.YtmhlmdnhpfhoeaaDoor
open Go Vc HexM Go.Proofs

def sRefSp : ByteArray := ⟨#[114, 101, 102, 58, 32]⟩
/-- What a reference's file says: a name, another reference, an error. -/
def fileE (ys : List FileE) (name : ByteArray) : ByteArray × ByteArray × Int :=
  if (getE ys name).2 ≠ 0 then (⟨#[]⟩, ⟨#[]⟩, (getE ys name).2)
  else if isId (cutSuf (getE ys name).1 ⟨#[10]⟩).data.toList = true ∧ sufL [10] (getE ys name).1.data.toList = true then (cutSuf (getE ys name).1 ⟨#[10]⟩, ⟨#[]⟩, 0)
  else if sufL [10] (getE ys name).1.data.toList = false then (⟨#[]⟩, ⟨#[]⟩, 3)
  else if begB (cutSuf (getE ys name).1 ⟨#[10]⟩) sRefSp = false then (⟨#[]⟩, ⟨#[]⟩, 3)
  else if nameB (cutPre (cutSuf (getE ys name).1 ⟨#[10]⟩) sRefSp) = false then (⟨#[]⟩, ⟨#[]⟩, 3)
  else (⟨#[]⟩, cutPre (cutSuf (getE ys name).1 ⟨#[10]⟩) sRefSp, 0)
theorem cutSuf_le (s t : ByteArray) : (cutSuf s t).size ≤ s.size := by
  unfold cutSuf
  split
  · rw [ByteArray.size_extract]; omega
  · exact Nat.le_refl _
theorem get_le {ys : List FileE} (hd : ∀ x ∈ ys, x.data.size ≤ 140737488355328) (name : ByteArray) : (getE ys name).1.size ≤ 140737488355328 := by
  unfold getE
  cases hfnd : ys.find? (fun x => decide (x.path = name)) with
  | none => exact Nat.zero_le _
  | some x => exact hd x (List.mem_of_find?_eq_some hfnd)
section
variable {w : World} {rb b mb : Nat} {l : Sl} {ys : List FileE} {size : Int} {rows : List RowE}
theorem file_spec (hml : MaxL w) (hr : IsRefs w rb b mb rows) (h : IsSnap w b l ys size) (hs : Rising ys) (hd : ∀ x ∈ ys, x.data.size ≤ 140737488355328) (name : ByteArray) : Calls Tryd.prog F_refs_Refs_file #[.pointer (some ⟨rb, 0, none⟩), .string name] w fun e w' =>
    e = .returned (.tuple #[.string (fileE ys name).1, .string (fileE ys name).2.1, .int .i64 (fileE ys name).2.2]) ∧ Fr (fun _ => False) w w' := by
  refine vc_refs_Refs_file_ok (R := fun v w' => v = .tuple #[.string (fileE ys name).1, .string (fileE ys name).2.1, .int .i64 (fileE ys name).2.2] ∧ Fr (fun _ => False) w w') ?_ (fun v w' h => ⟨by rw [h.1], h.2⟩)
  refine ⟨_, by rw [cell_blk hr.blk]; rfl, (get_spec h hs name).mono ?_⟩
  rintro e w3 ⟨rfl, hf3⟩
  have hle := get_le hd name
  have hE : fileE ys name = (if (getE ys name).2 ≠ 0 then (⟨#[]⟩, ⟨#[]⟩, (getE ys name).2)
    else if isId (cutSuf (getE ys name).1 ⟨#[10]⟩).data.toList = true ∧ sufL [10] (getE ys name).1.data.toList = true then (cutSuf (getE ys name).1 ⟨#[10]⟩, ⟨#[]⟩, 0)
    else if sufL [10] (getE ys name).1.data.toList = false then (⟨#[]⟩, ⟨#[]⟩, 3)
    else if begB (cutSuf (getE ys name).1 ⟨#[10]⟩) sRefSp = false then (⟨#[]⟩, ⟨#[]⟩, 3)
    else if nameB (cutPre (cutSuf (getE ys name).1 ⟨#[10]⟩) sRefSp) = false then (⟨#[]⟩, ⟨#[]⟩, 3)
    else (⟨#[]⟩, cutPre (cutSuf (getE ys name).1 ⟨#[10]⟩) sRefSp, 0)) := rfl
  have fin : ∀ {w' : World} {a c : ByteArray} {n : Int}, Fr (fun _ => False) w w' → fileE ys name = (a, c, n) → Value.tuple #[.string a, .string c, .int .i64 n] = .tuple #[.string (fileE ys name).1, .string (fileE ys name).2.1, .int .i64 (fileE ys name).2.2] ∧ Fr (fun _ => False) w w' := fun hf he => ⟨by rw [he], hf⟩
  generalize (getE ys name).1 = text at hE hle ⊢
  generalize (getE ys name).2 = er at hE ⊢
  refine ⟨_, _, rfl, fun hne => fin hf3 (by rw [hE, if_pos (by simpa using hne)]), fun heq => ?_⟩
  rw [if_neg (by simpa using heq)] at hE
  refine (cutSuffix_spec text ⟨#[10]⟩ hle w3).mono ?_
  rintro e w7 ⟨rfl, hw⟩
  replace hw := hw.symm
  subst hw
  have hll := cutSuf_le text ⟨#[10]⟩
  rw [show (⟨#[10]⟩ : ByteArray).data.toList = [10] from rfl]
  generalize cutSuf text ⟨#[10]⟩ = line at hE hll ⊢
  generalize sufL [10] text.data.toList = ok at hE ⊢
  refine ⟨_, _, rfl, fun w' => Fr (fun _ => False) w3 w' ∧ ¬ (isId line.data.toList = true ∧ ok = true), (id_spec line (by omega) w3).mono ?_, ?_⟩
  · rintro e w12 ⟨rfl, hf12⟩
    refine ⟨_, rfl, fun hi => ⟨fun hk => fin (hf3.trans' hf12) (by rw [hE, if_pos ⟨hi, hk⟩]), fun hk => ⟨hf12, fun hh => ?_⟩⟩, fun hi => ⟨hf12, fun hh => ?_⟩⟩
    · rw [hh.2] at hk; cases hk
    · rw [hh.1] at hi; cases hi
  · rintro w14 ⟨hf14, hno⟩
    rw [if_neg hno] at hE
    have hF14 := hf3.trans' hf14
    refine (cutPrefix_spec line sRefSp w14).mono ?_
    rintro e w16 ⟨rfl, hw⟩
    replace hw := hw.symm
    subst hw
    have hpl := cutPre_le line sRefSp
    refine ⟨_, _, rfl, fun hk => fin hF14 (by rw [hE, if_pos (by simpa using hk)]), fun hk => ⟨fun hb => fin hF14 ?_, fun hb => ?_⟩⟩
    · rw [hE, if_neg (by simpa using hk), if_pos (by simpa using hb)]
    refine (name_spec _ (by omega) (hml.keep hF14)).mono ?_
    rintro e w20 ⟨rfl, hf20⟩
    refine ⟨_, rfl, fun hn => fin (hF14.trans' hf20) ?_, fun hn => fin (hF14.trans' hf20) ?_⟩
    · rw [hE, if_neg (by simpa using hk), if_neg (by simpa using hb), if_pos (by simpa using hn)]
    · rw [hE, if_neg (by simpa using hk), if_neg (by simpa using hb), if_neg (by simpa using hn)]
/-- What is looked up. -/
def lookF (ys : List FileE) (rows : List RowE) : Nat → ByteArray → ByteArray × Int
  | 0, name => if (fileE ys name).2.2 = 7 then (match rlook rows name with | some x => (x.1, 0) | none => (⟨#[]⟩, 7))
    else if (fileE ys name).2.2 ≠ 0 ∨ (fileE ys name).1 ≠ ⟨#[]⟩ then ((fileE ys name).1, (fileE ys name).2.2) else (⟨#[]⟩, 9)
  | f + 1, name => if (fileE ys name).2.2 = 7 then (match rlook rows name with | some x => (x.1, 0) | none => (⟨#[]⟩, 7))
    else if (fileE ys name).2.2 ≠ 0 ∨ (fileE ys name).1 ≠ ⟨#[]⟩ then ((fileE ys name).1, (fileE ys name).2.2) else lookF ys rows f (fileE ys name).2.1
theorem lookF_eq (ys : List FileE) (rows : List RowE) (f : Nat) (name : ByteArray) : lookF ys rows f name = if (fileE ys name).2.2 = 7 then (match rlook rows name with | some x => (x.1, 0) | none => (⟨#[]⟩, 7))
    else if (fileE ys name).2.2 ≠ 0 ∨ (fileE ys name).1 ≠ ⟨#[]⟩ then ((fileE ys name).1, (fileE ys name).2.2)
    else (match f with | 0 => (⟨#[]⟩, 9) | f + 1 => lookF ys rows f (fileE ys name).2.1) := by
  cases f <;> rfl
def lookE (ys : List FileE) (rows : List RowE) (name : ByteArray) : ByteArray × Int := if nameB name = false then (⟨#[]⟩, 4) else lookF ys rows 5 name
theorem lookup_spec (hml : MaxL w) (hr : IsRefs w rb b mb rows) (h : IsSnap w b l ys size) (hs : Rising ys) (hd : ∀ x ∈ ys, x.data.size ≤ 140737488355328) (name : ByteArray) (hn : name.size ≤ 140737488355328) : Calls Tryd.prog F_refs_Refs_Lookup #[.pointer (some ⟨rb, 0, none⟩), .string name] w fun e w' =>
    e = .returned (.tuple #[.string (lookE ys rows name).1, .int .i64 (lookE ys rows name).2]) ∧ Fr (fun _ => False) w w' := by
  refine vc_refs_Refs_Lookup_ok (R := fun v w' => v = .tuple #[.string (lookE ys rows name).1, .int .i64 (lookE ys rows name).2] ∧ Fr (fun _ => False) w w') ?_ (fun v w' h => ⟨by rw [h.1], h.2⟩)
  have fin : ∀ {w' : World} {a : ByteArray} {n : Int}, Fr (fun _ => False) w w' → lookE ys rows name = (a, n) → Value.tuple #[.string a, .int .i64 n] = .tuple #[.string (lookE ys rows name).1, .int .i64 (lookE ys rows name).2] ∧ Fr (fun _ => False) w w' := fun hf he => ⟨by rw [he], hf⟩
  refine (name_spec name hn hml).mono ?_
  rintro e w2 ⟨rfl, hf2⟩
  refine ⟨_, rfl, fun hk => fin hf2 (by unfold lookE; rw [if_pos (by simpa using hk)]), fun hk => ?_⟩
  have hE : lookE ys rows name = lookF ys rows 5 name := by unfold lookE; rw [if_neg (by simpa using hk)]
  refine ⟨fun s z w' => Fr (fun _ => False) w w' ∧ ∃ f : Nat, f ≤ 5 ∧ z = ((5 - f : Nat) : Int) ∧ lookE ys rows name = lookF ys rows f s, fun _ z _ => 5 - z.toNat, ⟨hf2, 5, Nat.le_refl _, rfl, hE⟩, ?_⟩
  clear hE
  rintro s z w8 ⟨hf8, f, hf5, rfl, hE⟩
  refine (file_spec (hml.keep hf8) (hr.keep hf8) (h.keep hf8) hs hd s).mono ?_
  rintro e w10 ⟨rfl, hf10⟩
  have hF10 := hf8.trans' hf10
  rw [lookF_eq] at hE
  generalize (fileE ys s).1 = id at hE ⊢
  generalize (fileE ys s).2.1 = other at hE ⊢
  generalize (fileE ys s).2.2 = er at hE ⊢
  refine ⟨_, _, _, rfl, fun h7 => ?_, fun h7 => ⟨fun hne => fin hF10 ?_, fun hne => ⟨fun hid => fin hF10 ?_, fun hid => ⟨fun h5 => fin hF10 ?_, fun h5 => ?_⟩⟩⟩⟩
  · have h7 : er = 7 := by simpa using h7
    subst h7
    rw [if_pos rfl] at hE
    have hm10 := hr.rows.keep hF10 (by simp)
    have hlk := map_lookup (P := Tryd.prog) (mt := T_map_string_refs_row) (kt := T_string) (et := T_refs_row) (by kernel_rfl) (by kernel_rfl) (row_zero w10) hm10 s true
    rw [mlook_rows] at hlk
    have key : ∀ (x1 x2 : ByteArray) (w19 : World), w19 = w10.alloc (.cells #[.string ⟨#[]⟩, .string ⟨#[]⟩] T_refs_row) → ∃ w20, (storeVar T_refs_row ⟨w10.heap.size, 0, none⟩ (.agg #[.string x1, .string x2])).run Tryd.prog w19 = .ok PUnit.unit w20 ∧ w20.cell? ⟨w10.heap.size, 0, none⟩ = some (.string x1) ∧ Fr (fun _ => False) w10 w20 := fun x1 x2 w19 h19 => by
      have hf19 : Fr (fun _ => False) w10 w19 := by rw [h19]; exact .alloc _ _ _
      have hb19 : w19.heap[w10.heap.size]? = some (.cells #[.string ⟨#[]⟩, .string ⟨#[]⟩] T_refs_row (0, 0)) := by rw [h19]; exact alloc_new _ _
      refine ⟨_, run_storeVar_row (P := Tryd.prog) w19 w10.heap.size T_refs_row T_refs_row _ #[.string x1, .string x2] hb19 (by kernel_rfl) rfl (by simp [Value.oneCell']), ?_, hf19.trans (setRow_frR (· = w10.heap.size) w19 w10.heap.size _ rfl) fun q hq e => by omega⟩
      rw [cell_blk (setRow_heap w19 w10.heap.size _ #[.string x1, .string x2] T_refs_row (0, 0) hb19)]; rfl
    have hcm : w10.cell? ⟨rb, 1, none⟩ = some (.map (some mb)) := by rw [cell_blk (hF10.keep hr.blk (by simp))]; rfl
    cases hx : rlook rows s with
    | some x =>
      rw [hx] at hlk hE
      refine ⟨_, hcm, w10, x.1, x.2, _, hlk, fun w19 h19 => ?_⟩
      obtain ⟨w20, k1, k2, k3⟩ := key x.1 x.2 w19 h19
      exact ⟨w20, k1, fun _ => ⟨_, k2, fin (hF10.trans' k3) hE⟩, fun h => by cases h⟩
    | none =>
      rw [hx] at hlk hE
      refine ⟨_, hcm, w10, _, _, _, hlk, fun w19 h19 => ?_⟩
      obtain ⟨w20, k1, k2, k3⟩ := key ⟨#[]⟩ ⟨#[]⟩ w19 h19
      exact ⟨w20, k1, fun h => (by cases h), fun _ => fin (hF10.trans' k3) hE⟩
  all_goals
    have h7 : er ≠ 7 := by simpa using h7
    rw [if_neg h7] at hE
  · rw [hE, if_pos (.inl (by simpa using hne))]
  all_goals have hne : er = 0 := by simpa using hne
  · rw [bs_eq] at hid
    rw [hE, if_pos (.inr (by simpa using hid))]
  all_goals
    rw [bs_eq] at hid
    have hid : id = ⟨#[]⟩ := by simpa using hid
    rw [if_neg (fun hh => hh.elim (fun hh => hh hne) (fun hh => hh hid))] at hE
  · have hf0 : f = 0 := by have := eq_of_beq h5; omega
    subst hf0
    exact hE
  · obtain ⟨g, rfl⟩ : ∃ g, f = g + 1 := ⟨f - 1, by
      rcases Nat.eq_zero_or_pos f with h0 | h0
      · subst h0; simp at h5
      · omega⟩
    have e1 : IntKind.i64.wrap (((5 - (g + 1) : Nat) : Int) + 1) = ((5 - g : Nat) : Int) := by rw [wrap_i64 (by omega) (by omega)]; omega
    rw [e1]
    exact ⟨⟨hF10, g, by omega, rfl, hE⟩, by dsimp only; omega⟩
end
end Go.Proofs.YtmhlmdnhpfhoeaaDoor
