/- The program's folders: mode, text, Name, key, Check. Conditions: the table that folds ASCII letters lies as its initialiser lays it; texts are no longer than memory. -/
import Derived.Test.YtmihbbgojkbaeaaDoorTreeM
import Derived.Test.YtmihbbgojkbaeaaDoorVcSlK
import Derived.Test.YtmihbbgojkbaeaaDoorVcMap
import Derived.Test.YtmihbbgojkbaeaaDoorTree
set_option linter.unusedVariables false
namespace Go.Proofs.YtmihbbgojkbaeaaDoor
open Go Vc HexM TreeM Go.Proofs

theorem elE : ElK encE 3 Tryd.prog T_S_api_Entry T_api_Entry (.agg #[.int .i64 0, .string ⟨#[]⟩, .string ⟨#[]⟩]) 40 :=
  ⟨by kernel_rfl, by kernel_rfl, rfl, by decide, by kernel_rfl, fun _ => rfl, fun x u hu => by
    simp only [encE, List.mem_cons, List.mem_nil_iff, or_false] at hu
    rcases hu with rfl | rfl | rfl <;> rfl⟩
/-- A struct in a block of its own. -/
theorem boxE_run (w : World) (x : Ent) : (storeVar T_api_Entry ⟨w.heap.size, 0, none⟩ (.agg #[.int .i64 x.mode, .string x.name, .string x.id])).run Tryd.prog (w.alloc (.cells #[.int .i64 0, .string ⟨#[]⟩, .string ⟨#[]⟩] T_api_Entry)) = .ok () (w.alloc (.cells (encE x).toArray T_api_Entry)) :=
  run_storeVar_new w T_api_Entry _ _ (by kernel_rfl) rfl (by simp [Value.oneCell'])
theorem boxE_cell (w : World) (x : Ent) {w' : World} {X : Nat → Prop} (hf : Fr X (w.alloc (.cells (encE x).toArray T_api_Entry)) w') (hx : ¬ X w.heap.size) {j : Nat} {v : Value} (hv : (encE x)[j]? = some v) : w'.cell? ⟨w.heap.size, j, none⟩ = some v :=
  hf.cell (by rw [cell_blk (alloc_new w _)]; simpa using hv) hx
theorem boxE_load (w : World) (x : Ent) {w' : World} {X : Nat → Prop} (hf : Fr X (w.alloc (.cells (encE x).toArray T_api_Entry)) w') (hx : ¬ X w.heap.size) : (loadVar T_api_Entry ⟨w.heap.size, 0, none⟩).run Tryd.prog w' = .ok (.agg #[.int .i64 x.mode, .string x.name, .string x.id]) w' :=
  load_agg (vs := encE x) (agg_of (by kernel_rfl)) (by kernel_rfl) fun k v hv => by rw [add_lit, Nat.zero_add]; exact boxE_cell w x hf hx hv
theorem text_spec (m : Int) (w : World) : Calls Tryd.prog F_tree_text #[.int .i64 m] w fun e w' => e = .returned (.string (modeText m)) ∧ w' = w := by
  refine vc_tree_text_ok (R := fun v w' => v = .string (modeText m) ∧ w' = w) ?_ (fun v w' h => ⟨by rw [h.1], h.2⟩)
  unfold modeText
  have no : ∀ {a b : Int}, (a == b) = false → ¬ a = b := fun h e => by rw [e] at h; simp at h
  refine ⟨fun h => ⟨by rw [if_pos (eq_of_beq h)]; rfl, rfl⟩, fun h1 => ⟨fun h => ⟨by rw [if_neg (no h1), if_pos (eq_of_beq h)]; rfl, rfl⟩, fun h2 => ⟨fun h => ⟨by rw [if_neg (no h1), if_neg (no h2), if_pos (eq_of_beq h)]; rfl, rfl⟩, fun h3 => ⟨fun h => ⟨by rw [if_neg (no h1), if_neg (no h2), if_neg (no h3), if_pos (eq_of_beq h)]; rfl, rfl⟩, fun h4 => ⟨fun h => ⟨by rw [if_neg (no h1), if_neg (no h2), if_neg (no h3), if_neg (no h4), if_pos (eq_of_beq h)]; rfl, rfl⟩, fun h5 => ⟨by rw [if_neg (no h1), if_neg (no h2), if_neg (no h3), if_neg (no h4), if_neg (no h5)], rfl⟩⟩⟩⟩⟩⟩
theorem mode_spec (s : ByteArray) (w : World) : Calls Tryd.prog F_tree_mode #[.string s] w fun e w' => e = .returned (.int .i64 (textMode s)) ∧ w' = w := by
  refine vc_tree_mode_ok (R := fun v w' => v = .int .i64 (textMode s) ∧ w' = w) ?_ (fun v w' h => ⟨by rw [h.1], h.2⟩)
  unfold textMode
  have yes : ∀ {b : ByteArray}, (s.toList == b.toList) = true → s = b := fun h => by rw [bs_eq] at h; exact of_decide_eq_true h
  have no : ∀ {b : ByteArray}, (s.toList == b.toList) = false → ¬ s = b := fun h => by rw [bs_eq] at h; exact of_decide_eq_false h
  refine ⟨fun h => ⟨by rw [if_pos (show s = s40000 from yes h)], rfl⟩, fun h1 => ?_⟩
  rw [if_neg (show ¬ s = s40000 from no h1)]
  refine ⟨fun h => ⟨by rw [if_pos (show s = s100644 from yes h)], rfl⟩, fun h2 => ?_⟩
  rw [if_neg (show ¬ s = s100644 from no h2)]
  refine ⟨fun h => ⟨by rw [if_pos (show s = s100755 from yes h)], rfl⟩, fun h3 => ?_⟩
  rw [if_neg (show ¬ s = s100755 from no h3)]
  refine ⟨fun h => ⟨by rw [if_pos (show s = s120000 from yes h)], rfl⟩, fun h4 => ?_⟩
  rw [if_neg (show ¬ s = s120000 from no h4)]
  refine ⟨fun h => ⟨by rw [if_pos (show s = s160000 from yes h)], rfl⟩, fun h5 => ?_⟩
  rw [if_neg (show ¬ s = s160000 from no h5)]
  exact ⟨rfl, rfl⟩
theorem slash0_ascii : Ascii ⟨#[47, 0]⟩ := fun j hj => by
  have : j < 2 := hj
  match j, this with
  | 0, _ => decide
  | 1, _ => decide
/-- The table and where it lies. -/
structure Tab (w : World) : Prop where
  fold : FoldTab w
  at_ : G_unicode_asciiFold < w.heap.size
theorem Tab.keep {w w1 : World} (h : Tab w) {X : Nat → Prop} (hf : Fr X w w1) (hx : ¬ X 0) : Tab w1 := ⟨h.fold.keep hf hx, Nat.lt_of_lt_of_le h.at_ hf.size⟩
theorem name_spec (s : ByteArray) (hs : s.size ≤ 140737488355328) (w : World) (ht : Tab w) : Calls Tryd.prog F_tree_Name #[.string s] w fun e w' => e = .returned (.bool (nameOK isGit s)) ∧ Fr (fun _ => False) w w' := by
  refine vc_tree_Name_ok (R := fun v w' => v = .bool (nameOK isGit s) ∧ Fr (fun _ => False) w w') ?_ (fun v w' h => ⟨by rw [h.1], h.2⟩)
  rw [vc_tree_Name]
  simp only [bs_eq]
  unfold nameOK
  have e1 : ∀ (p : Prop) [Decidable p], (!decide p) = decide (¬ p) := fun p _ => by simp
  simp only [e1]
  refine ⟨fun h1 => ⟨fun h2 => ⟨fun h3 => ⟨fun h4 => (equalFold_spec s hs w ht.fold ht.at_).mono ?_, fun h4 => ⟨?_, .refl _ _⟩⟩, fun h3 => ⟨?_, .refl _ _⟩⟩, fun h2 => ⟨?_, .refl _ _⟩⟩, fun h1 => ⟨?_, .refl _ _⟩⟩
  · have h2 := of_decide_eq_true h2
    rintro e w2 ⟨rfl, hf2⟩
    rw [h1, h3, h4, decide_eq_true (show s.size ≤ 100 by omega)]
    refine ⟨_, rfl, fun hg => (containsAny_spec s ⟨#[47, 0]⟩ (by omega) (by decide) (by decide) slash0_ascii w2).mono ?_, fun hg => ⟨?_, hf2⟩⟩
    · rintro e w5 ⟨rfl, hf5⟩
      rw [hg]
      exact ⟨_, rfl, rfl, hf2.trans' hf5⟩
    · rw [hg]; rfl
  · rw [h4]; simp
  · rw [h3]; simp
  · have h2 := of_decide_eq_false h2
    rw [decide_eq_false (show ¬ s.size ≤ 100 by omega)]; simp
  · rw [h1]; simp
theorem key_spec (x : Ent) (hx : x.name.size ≤ 140737488355328) (w : World) : Calls Tryd.prog F_tree_key #[.agg #[.int .i64 x.mode, .string x.name, .string x.id]] w fun e w' => e = .returned (.string (keyE x)) ∧ Fr (fun _ => False) w w' := by
  refine vc_tree_key_ok (R := fun v w' => v = .string (keyE x) ∧ Fr (fun _ => False) w w') ?_ (fun v w' h => ⟨by rw [h.1], h.2⟩)
  rintro w1 rfl
  have c : ∀ {j : Nat} {v : Value}, (encE x)[j]? = some v → (w.alloc (.cells (encE x).toArray T_api_Entry)).cell? ⟨w.heap.size, j, none⟩ = some v := fun hv => boxE_cell w x (.refl (fun _ => False) _) (by simp) hv
  refine ⟨x.mode, c (j := 0) rfl, fun h => ⟨x.name, c (j := 1) rfl, ?_, ?_, .alloc _ _ _⟩, fun h => ⟨x.name, c (j := 1) rfl, ?_, .alloc _ _ _⟩⟩
  · show x.name.size + 1 ≤ _; omega
  · unfold keyE; rw [if_pos (eq_of_beq h)]
  · unfold keyE; rw [if_neg (fun e => by rw [e] at h; simp at h)]
/-- What came in as entries. -/
structure Ents (w : World) (a : Option Addr) (n : Nat) (xs : List Ent) : Prop where
  len : xs.length = n
  reads : ReadsK encE 3 w a xs
  name : ∀ x ∈ xs, x.name.size ≤ 140737488355328
  id : ∀ x ∈ xs, x.id.size ≤ 140737488355328
theorem Ents.keep {w w1 : World} {a : Option Addr} {n : Nat} {xs : List Ent} (h : Ents w a n xs) {X : Nat → Prop} (hf : Fr X w w1) (hx : ∀ x, a = some x → ¬ X x.block) : Ents w1 a n xs := ⟨h.len, h.reads.keep hf hx, h.name, h.id⟩
theorem mupd_new {l : List (ByteArray × Value)} {k : ByteArray} (v : Value) (h : mlook l k = none) : mupd l k v = l ++ [(k, v)] := by
  induction l with
  | nil => rfl
  | cons p r ih =>
    obtain ⟨a, x⟩ := p
    rw [mlook] at h
    split at h
    · cases h
    · rename_i hne
      rw [mupd, if_neg hne, ih h]; rfl
theorem mlook_names {xs : List Ent} {k : ByteArray} : mlook (xs.map fun x => (x.name, Value.bool true)) k = (if (∃ x ∈ xs, x.name = k) then some (.bool true) else none) := by
  induction xs with
  | nil => simp [mlook]
  | cons x r ih =>
    rw [List.map_cons, mlook]
    by_cases h : x.name = k
    · rw [if_pos h, if_pos ⟨x, by simp, h⟩]
    · rw [if_neg h, ih]
      by_cases h2 : ∃ y ∈ r, y.name = k
      · obtain ⟨y, hy, hk⟩ := h2
        rw [if_pos ⟨y, hy, hk⟩, if_pos ⟨y, List.mem_cons_of_mem _ hy, hk⟩]
      · rw [if_neg h2, if_neg]
        rintro ⟨y, hy, hk⟩
        rcases List.mem_cons.1 hy with rfl | hy
        · exact h hk
        · exact h2 ⟨y, hy, hk⟩
/-- 'Check'. -/
theorem check_spec {w : World} {a : Option Addr} {n c : Nat} {xs : List Ent} (hE : Ents w a n xs) (ht : Tab w) : Calls Tryd.prog F_tree_Check #[.slice a n c] w fun e w' => e = .returned (.int .i64 (checkE isGit xs)) ∧ Fr (fun _ => False) w w' := by
  refine vc_tree_Check_ok (R := fun v w' => v = .int .i64 (checkE isGit xs) ∧ Fr (fun _ => False) w w') ?_ (fun v w' h => ⟨by rw [h.1], h.2⟩)
  have hlen := hE.len
  refine ⟨fun h => ⟨?_, .refl _ _⟩, fun h w1 hw1 => ?_⟩
  · have h := of_decide_eq_true h
    unfold checkE
    rw [if_pos (by omega)]
  have h500 := of_decide_eq_false h
  have hl5 : xs.length ≤ 500 := by omega
  subst hw1
  refine ⟨fun i w' => ∃ k : Nat, i = k ∧ k ≤ n ∧ (∀ j, j < k → okAt isGit xs j = true) ∧ MapOf w' w.heap.size ((xs.take k).map fun x => (x.name, .bool true)) ∧ Fr (fun _ => False) w w', fun i _ => n - i.toNat, ⟨0, rfl, Nat.zero_le _, fun j hj => by omega, MapOf.new, .alloc _ _ _⟩, ?_⟩
  rintro i w5 ⟨k, rfl, hk, hok, hmap, hf⟩
  refine ⟨fun hlt => ?_, fun hge => ⟨?_, hf⟩⟩
  · have hlt := of_decide_eq_true hlt
    have hkl : k < xs.length := by omega
    have hx : xs[k]? = some xs[k] := List.getElem?_eq_getElem hkl
    generalize xs[k] = x at hx
    have hxm : x ∈ xs := List.mem_of_getElem? hx
    obtain ⟨ad, had, hload⟩ := (hE.reads.keep hf (by simp)).load elE hx
    refine ⟨⟨by omega, by omega⟩, ad, had, x.mode, x.name, x.id, by rw [Int.toNat_natCast]; exact hload, fun w10 h10 => ?_⟩
    subst h10
    refine ⟨_, boxE_run w5 x, fun w12 d12 => ?_⟩
    have hb12 : Fr (fun _ => False) (w5.alloc (.cells (encE x).toArray T_api_Entry)) w12 := .drew _ d12
    have hf12 : Fr (fun _ => False) w w12 := (hf.trans' (.alloc _ _ _)).trans' hb12
    have bad : ∀ {w' : World}, Fr (fun _ => False) w12 w' → okAt isGit xs k = false → (Value.int .i64 4 = .int .i64 (checkE isGit xs) ∧ Fr (fun _ => False) w w') := fun hw' hb => ⟨by rw [check_bad hl5 hkl hb], hf12.trans' hw'⟩
    have cell : ∀ {w' : World}, Fr (fun _ => False) w12 w' → ∀ {j : Nat} {v : Value}, (encE x)[j]? = some v → w'.cell? ⟨w5.heap.size, j, none⟩ = some v := fun {w'} hw' {j} {v} hv => boxE_cell w5 x (hb12.trans' hw') (by simp) hv
    have hmap12 : MapOf w12 w.heap.size ((xs.take k).map fun x => (x.name, .bool true)) := (hmap.keep (.alloc (fun _ => False) _ _) (by simp)).keep hb12 (by simp)
    refine ⟨fun w' => Fr (fun _ => False) w12 w', .refl _ _, x.mode, fun w' hw' => cell hw' (j := 0) rfl, (text_spec x.mode w12).mono ?_⟩
    rintro e w17 ⟨rfl, hw⟩
    replace hw := hw.symm
    subst hw
    have hoki := okAt_iff (git := isGit) hx
    have notok : ∀ {p : Prop}, (okAt isGit xs k = true → p) → ¬ p → okAt isGit xs k = false := fun h1 h2 => Bool.eq_false_iff.2 fun h => h2 (h1 h)
    refine ⟨_, rfl, .refl _ _, fun hm => ?_, fun hm => ⟨x.name, fun w' hw' => cell hw' (j := 1) rfl, (name_spec x.name (hE.name x hxm) w12 (ht.keep hf12 (by simp))).mono ?_⟩⟩
    · rw [bs_eq] at hm
      have hm := of_decide_eq_true hm
      have := bad (.refl _ w12) (notok (fun h => (hoki.1 h).1) (by unfold entOK; rw [hm]; simp))
      exact ⟨.refl _ _, .refl _ _, .refl _ _, .refl _ _, this⟩
    rintro e w22 ⟨rfl, hf22⟩
    rw [bs_eq] at hm
    have hm := of_decide_eq_false hm
    refine ⟨_, rfl, hf22, fun hn => ?_, fun hn => ⟨x.id, fun w' hw' => cell hw' (j := 2) rfl, (id_spec x.id (hE.id x hxm) w22).mono ?_⟩⟩
    · have hn : nameOK isGit x.name = false := by simpa using hn
      have := bad hf22 (notok (fun h => (hoki.1 h).1) (by unfold entOK; rw [hn]; simp))
      exact ⟨hf22, hf22, hf22, this⟩
    rintro e w27 ⟨rfl, hf27⟩
    have hn : nameOK isGit x.name = true := by simpa using hn
    have hfw : Fr (fun _ => False) w12 w27 := hf22.trans' hf27
    refine ⟨_, rfl, hfw, fun hi => ?_, fun hi => ⟨x.name, fun w' hw' => cell hw' (j := 1) rfl, decide (∃ y ∈ xs.take k, y.name = x.name), fun w' hw' => ?_, ?_⟩⟩
    · have hi : isId x.id.data.toList = false := by simpa using hi
      have := bad hfw (notok (fun h => (hoki.1 h).1) (by unfold entOK; rw [hi]; simp))
      exact ⟨hfw, hfw, this⟩
    · have := map_lookup (P := Tryd.prog) (mt := T_map_string_bool) (kt := T_string) (et := 4) (by kernel_rfl) (by kernel_rfl) (z := .bool false) (w := w') (by kernel_rfl) (hmap12.keep hw' (by simp)) x.name false
      rw [mlook_names] at this
      rw [this]
      by_cases h : ∃ y ∈ xs.take k, y.name = x.name
      · simp only [if_pos h, decide_eq_true h]; rfl
      · simp only [if_neg h, decide_eq_false h]; rfl
    have hi : isId x.id.data.toList = true := by simpa using hi
    have hent : entOK isGit x = true := by unfold entOK; rw [hn, hi, decide_eq_true hm]; rfl
    have hmap27 := hmap12.keep hfw (by simp)
    have hstore : (∀ y ∈ xs.take k, y.name ≠ x.name) → (∀ y, 0 < k → xs[k - 1]? = some y → klt y x = true) → ∀ {w' : World}, Fr (fun _ => False) w12 w' →
        ∃ w49, (Instr.mapUpdate T_map_string_bool (.map (some w.heap.size)) (.string x.name) (.bool true)).run Tryd.prog w' = .ok () w49 ∧
          (∃ k' : Nat, IntKind.i64.wrap ((k : Int) + 1) = k' ∧ k' ≤ n ∧ (∀ j, j < k' → okAt isGit xs j = true) ∧ MapOf w49 w.heap.size ((xs.take k').map fun x => (x.name, .bool true)) ∧ Fr (fun _ => False) w w49) ∧ n - (IntKind.i64.wrap ((k : Int) + 1)).toNat < n - ((k : Int)).toNat := fun hno hord {w'} hw' => by
      obtain ⟨w49, hr, hm49, hf49⟩ := map_update (P := Tryd.prog) (mt := T_map_string_bool) (kt := T_string) (et := 4) (by kernel_rfl) (by kernel_rfl) (hmap12.keep hw' (by simp)) x.name (.bool true)
      have e1 : IntKind.i64.wrap ((k : Int) + 1) = ((k + 1 : Nat) : Int) := by rw [wrap_i64 (by omega) (by omega)]; omega
      rw [e1]
      refine ⟨w49, hr, ⟨k + 1, rfl, by omega, fun j hj => ?_, ?_, (hf12.trans' hw').trans hf49 fun q hq e => by omega⟩, by omega⟩
      · by_cases hjk : j = k
        · rw [hjk, hoki]
          refine ⟨hent, fun j y hj hy => hno y (List.mem_of_getElem? (i := j) (by rw [List.getElem?_take, if_pos hj, hy])), hord⟩
        · exact hok j (by omega)
      · rw [mupd_new] at hm49
        · rw [show xs.take (k + 1) = xs.take k ++ [x] by rw [List.take_add_one, hx]; rfl, List.map_append]; exact hm49
        · rw [mlook_names, if_neg]
          rintro ⟨y, hy, he⟩; exact hno y hy he
    refine ⟨fun hd => ?_, fun hd => ⟨fun h0 => ?_, fun h0 => ?_⟩⟩
    · obtain ⟨y, hy, he⟩ := of_decide_eq_true hd
      obtain ⟨j, hj⟩ := List.mem_iff_getElem?.1 hy
      rw [List.getElem?_take] at hj
      split at hj
      · rename_i hjk
        exact ⟨hfw, hfw, bad hfw (notok (fun h => (hoki.1 h).2.1 j y hjk hj) (by simp [he]))⟩
      · cases hj
    · have hd := of_decide_eq_false hd
      have h0 := of_decide_eq_true h0
      have hk0 : 0 < k := by omega
      have e2 : IntKind.i64.wrap ((k : Int) - 1) = ((k - 1 : Nat) : Int) := by rw [wrap_i64 (by omega) (by omega)]; omega
      rw [e2]
      have hyl : k - 1 < xs.length := by omega
      have hy : xs[k - 1]? = some xs[k - 1] := List.getElem?_eq_getElem hyl
      generalize xs[k - 1] = y at hy
      have hym : y ∈ xs := List.mem_of_getElem? hy
      obtain ⟨ad2, had2, hload2⟩ := ((hE.reads.keep hf12 (by simp))).load elE hy
      refine ⟨⟨by omega, by omega⟩, ad2, had2, y.mode, y.name, y.id, fun w' hw' => ?_, x.mode, x.name, x.id, fun w' hw' => ?_, (key_spec y (hE.name y hym) w27).mono ?_⟩
      · obtain ⟨ad3, had3, hload3⟩ := ((hE.reads.keep (hf12.trans' hw') (by simp))).load elE hy
        rw [had2] at had3
        cases had3
        rw [Int.toNat_natCast]; exact hload3
      · exact boxE_load w5 x (hb12.trans' hw') (by simp)
      rintro e w43 ⟨rfl, hf43⟩
      refine ⟨_, rfl, hfw.trans' hf43, (key_spec x (hE.name x hxm) w43).mono ?_⟩
      rintro e w46 ⟨rfl, hf46⟩
      have hfw46 : Fr (fun _ => False) w12 w46 := (hfw.trans' hf43).trans' hf46
      refine ⟨_, rfl, hfw46, ?_⟩
      rw [ByteArray.toList_eq, ByteArray.toList_eq]
      refine ⟨fun hl => ?_, fun hl => ⟨x.name, cell hfw46 (j := 1) rfl, ?_⟩⟩
      · have hl : klt y x = false := by simpa [klt] using hl
        exact bad hfw46 (notok (fun h => (hoki.1 h).2.2 y hk0 hy) (by simp [hl]))
      · have hl : klt y x = true := by simpa [klt] using hl
        exact hstore (fun z hz he => hd ⟨z, hz, he⟩) (fun z _ hz => by rw [hy] at hz; cases hz; exact hl) hfw46
    · have hd := of_decide_eq_false hd
      have h0 := of_decide_eq_false h0
      exact ⟨hfw, hfw, x.name, cell hfw (j := 1) rfl, hstore (fun z hz he => hd ⟨z, hz, he⟩) (fun z hz _ => by omega) hfw⟩
  · have hge := of_decide_eq_false hge
    have : k = xs.length := by omega
    rw [check_good hl5 (fun j hj => hok j (by omega))]
end Go.Proofs.YtmihbbgojkbaeaaDoor
