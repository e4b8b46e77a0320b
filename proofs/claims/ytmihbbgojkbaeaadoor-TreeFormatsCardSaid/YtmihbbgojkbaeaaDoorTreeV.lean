/- The law of folders' forms walked. Conditions: the table that folds ASCII letters lies as its initialiser lays it; texts are no longer than memory. -/
import Derived.Test.YtmihbbgojkbaeaaDoorTreeW
set_option linter.unusedVariables false
namespace Go.Proofs.YtmihbbgojkbaeaaDoor
open Go Vc HexM TreeM Go.Proofs

theorem findE_snoc (xs : List Ent) (x : Ent) (name : ByteArray) : findE (xs ++ [x]) name = if (findE xs name).2 = 0 then findE xs name else if x.name = name then (x, 0) else findE xs name := by
  unfold findE
  rw [List.find?_append]
  cases h : xs.find? (fun x => decide (x.name = name)) with
  | some y => simp
  | none =>
    by_cases hx : x.name = name
    · simp [hx]
    · simp [hx]
theorem findE_val (xs : List Ent) (name : ByteArray) : (findE xs name).2 = 0 ∨ findE xs name = (⟨0, ⟨#[]⟩, ⟨#[]⟩⟩, 7) := by
  unfold findE
  split
  · exact .inl rfl
  · exact .inr rfl
/-- 'TreeFormats'. -/
theorem treeFormats_walk {a : Option Addr} {n c : Nat} {W : World} {xs : List Ent} (hE : Ents W a n xs) (hc : n ≤ c) (x1 : ByteArray) (h1 : x1.size ≤ reachBytes) (ht : Tab W) : Calls Tryd.prog F_cartularylaw14_TreeFormats #[.slice a n c, .string x1] W fun e w' => e = .returned (.bool true) ∧ RowKit.Below W.heap.size W w' := by
  refine vc_cartularylaw14_TreeFormats_ok (R := fun v w' => v = .bool true ∧ Fr (fun k => W.heap.size ≤ k) W w') ?_ (fun v w' h => ⟨by rw [h.1], h.2.below (Nat.le_refl _)⟩)
  have up : ∀ {w' : World}, Fr (fun _ => False) W w' → Fr (fun k => W.heap.size ≤ k) W w' := fun h => h.mono fun _ _ h => h.elim
  have hml : reachBytes ≤ 140737488355328 := by decide
  refine (fewE_spec hE hc).mono ?_
  rintro e w2 ⟨l3, rfl, ho, hf2⟩
  have hE2 := hE.take600 ho
  obtain ⟨ys, hys⟩ : ∃ ys, xs.take 600 = ys := ⟨_, rfl⟩
  rw [hys] at ho hE2
  have hlen := hE2.len
  have hl600 : ys.length ≤ 600 := by rw [← hys, List.length_take]; omega
  refine ⟨l3, rfl, (format_spec hE2 (ht.keep hf2 (by simp))).mono ?_⟩
  rintro e w5 ⟨rfl, hf5⟩
  refine ⟨_, _, rfl, (rcheck_spec (hE2.keep hf5 (by simp)) ho.cap).mono ?_⟩
  rintro e w9 ⟨rfl, hf9⟩
  have hf9' := hf5.trans' hf9
  refine ⟨_, rfl, (tfind_spec (hE2.keep hf9' (by simp)) (by omega) x1).mono ?_⟩
  rintro e w12 ⟨rfl, hf12⟩
  have hf12' := hf9'.trans' hf12
  obtain ⟨w18, h18⟩ : ∃ w, w = w12.alloc (.cells (encE (findE ys x1).1).toArray T_api_Entry) := ⟨_, rfl⟩
  obtain ⟨w20, h20⟩ : ∃ w, w = w18.alloc (.cells (encE ⟨0, ⟨#[]⟩, ⟨#[]⟩⟩).toArray T_api_Entry) := ⟨_, rfl⟩
  have hb18 : w18.heap[w12.heap.size]? = some (.cells (encE (findE ys x1).1).toArray T_api_Entry (0, 0)) := by rw [h18]; exact alloc_new _ _
  have hb20 : w20.heap[w18.heap.size]? = some (.cells (encE ⟨0, ⟨#[]⟩, ⟨#[]⟩⟩).toArray T_api_Entry (0, 0)) := by rw [h20]; exact alloc_new _ _
  have hf18 : Fr (fun _ => False) w12 w18 := by rw [h18]; exact .alloc _ _ _
  have hf20 : Fr (fun _ => False) w18 w20 := by rw [h20]; exact .alloc _ _ _
  have hlt18 := lt_blk hb18
  have hlt20 := lt_blk hb20
  refine ⟨_, _, _, _, rfl, fun w17 h17 => ⟨w18, by rw [h17, h18]; exact boxE_run w12 (findE ys x1).1, fun w19 h19 => ⟨w20, by rw [h19, h20]; exact boxE_run w18 ⟨0, ⟨#[]⟩, ⟨#[]⟩⟩, ?_⟩⟩⟩
  clear h18 h20
  have hf20' : Fr (fun _ => False) w2 w20 := (hf12'.trans' hf18).trans' hf20
  have hsz2 := hf2.size
  have hsz12 := hf12'.size
  refine ⟨fun b i w' => ∃ k : Nat, i = k ∧ k ≤ ys.length ∧ b = decide ((findE (ys.take k) x1).2 = 0) ∧ w'.heap[w18.heap.size]? = some (.cells (encE (findE (ys.take k) x1).1).toArray T_api_Entry (0, 0)) ∧ Fr (· = w18.heap.size) w20 w', fun _ i _ => ys.length - i.toNat, ⟨0, rfl, Nat.zero_le _, rfl, hb20, .refl _ _⟩, ?_⟩
  rintro b i w25 ⟨k, rfl, hk, hb, hb25, hf25⟩
  have hf25' : Fr (fun _ => False) w2 w25 := hf20'.trans hf25 fun q hq e => by omega
  have e1 : IntKind.i64.wrap ((k : Int) + 1) = ((k + 1 : Nat) : Int) := by rw [wrap_i64 (by omega) (by omega)]; omega
  rw [e1]
  refine ⟨fun hlt => ?_, fun hge => ?_⟩
  · have hlt := of_decide_eq_true hlt
    have hkl : k < ys.length := by omega
    have hx : ys[k]? = some ys[k] := List.getElem?_eq_getElem hkl
    generalize ys[k] = x at hx
    have htk : ys.take (k + 1) = ys.take k ++ [x] := by rw [List.take_add_one, hx]; rfl
    obtain ⟨ad, had, hload⟩ := (hE2.reads.keep hf25' (by simp)).load elE hx
    refine ⟨⟨by omega, by omega⟩, ad, had, x.mode, x.name, x.id, by rw [Int.toNat_natCast]; exact hload, fun w30 h30 => ?_⟩
    subst h30
    have hfa := Fr.alloc (fun _ => False) w25 (.cells (encE x).toArray T_api_Entry)
    have hfb : Fr (· = w18.heap.size) w20 (w25.alloc (.cells (encE x).toArray T_api_Entry)) := hf25.trans hfa fun q hq e => e.elim
    have hb31 := hfa.keep hb25 (by simp)
    refine ⟨_, boxE_run w25 x, fun hnb => ⟨x.name, boxE_cell w25 x (.refl (fun _ => False) _) (by simp) (j := 1) rfl, fun he => ?_, fun hne => ?_⟩, fun hbt => ?_⟩
    · have hno : ¬ (findE (ys.take k) x1).2 = 0 := by
        intro h; rw [hb, decide_eq_true h] at hnb; cases hnb
      have he : x.name = x1 := by rw [bs_eq] at he; exact of_decide_eq_true he
      have hr := run_storeVar_row (P := Tryd.prog) _ w18.heap.size T_api_Entry T_api_Entry _ #[.int .i64 x.mode, .string x.name, .string x.id] hb31 (by kernel_rfl) rfl (by simp [Value.oneCell'])
      have hb36 := setRow_heap _ w18.heap.size _ #[.int .i64 x.mode, .string x.name, .string x.id] T_api_Entry _ hb31
      refine ⟨x.mode, x.name, x.id, boxE_load w25 x (.refl (fun _ => False) _) (by simp), _, hr, ⟨k + 1, rfl, by omega, ?_, ?_, ?_⟩, by dsimp only; omega⟩
      · rw [htk, findE_snoc, if_neg hno, if_pos he]; rfl
      · rw [htk, findE_snoc, if_neg hno, if_pos he]; exact hb36
      · have : Fr (· = w18.heap.size) (w25.alloc (.cells (encE x).toArray T_api_Entry)) ((w25.alloc (.cells (encE x).toArray T_api_Entry)).setRow w18.heap.size #[.int .i64 x.mode, .string x.name, .string x.id]) := ⟨rfl, rfl, rfl, by simp [World.setRow], fun q _ hq => setRow_other _ w18.heap.size q _ hq⟩
        exact hfb.trans' this
    · have hno : ¬ (findE (ys.take k) x1).2 = 0 := by
        intro h; rw [hb, decide_eq_true h] at hnb; cases hnb
      have hne : x.name ≠ x1 := by rw [bs_eq] at hne; exact of_decide_eq_false hne
      refine ⟨⟨k + 1, rfl, by omega, ?_, ?_, hfb⟩, by dsimp only; omega⟩
      · rw [htk, findE_snoc, if_neg hno, if_neg hne]; exact hb
      · rw [htk, findE_snoc, if_neg hno, if_neg hne]; exact hb31
    · have hyes : (findE (ys.take k) x1).2 = 0 := by
        rw [hb] at hbt
        by_cases h : (findE (ys.take k) x1).2 = 0
        · exact h
        · rw [decide_eq_false h] at hbt; cases hbt
      refine ⟨⟨k + 1, rfl, by omega, ?_, ?_, hfb⟩, by dsimp only; omega⟩
      · rw [htk, findE_snoc, if_pos hyes]; exact hb
      · rw [htk, findE_snoc, if_pos hyes]; exact hb31
  have hge := of_decide_eq_false hge
  have hk' : k = ys.length := by omega
  rw [hk', List.take_of_length_le (Nat.le_refl _)] at hb hb25
  have hW25 := hf2.trans' hf25'
  have hb12 := (hf20.keep hb18 (by simp))
  refine ⟨fun w' => Fr (fun _ => False) w2 w', (awake14_spec w25 (ht.keep hW25 (by simp))).mono ?_, ?_⟩
  · rintro e w39 ⟨rfl, hf39⟩
    have hf39' := hf25'.trans' hf39
    refine ⟨_, rfl, fun h => (by cases h), fun _ => ⟨fun h => ?_, fun _ => (check_spec (hE2.keep hf39' (by simp)) (ht.keep (hf2.trans' hf39') (by simp))).mono ?_⟩⟩
    · simp at h
    rintro e w42 ⟨rfl, hf42⟩
    refine ⟨_, rfl, fun h => ?_, fun _ => (name_spec x1 (by omega) w42 (ht.keep (hf2.trans' (hf39'.trans' hf42)) (by simp))).mono ?_⟩
    · simp at h
    rintro e w45 ⟨rfl, hf45⟩
    refine ⟨_, rfl, (rname_spec x1 (by omega) w45).mono ?_⟩
    rintro e w48 ⟨rfl, hf48⟩
    have hg48 : Fr (fun _ => False) w25 w48 := ((hf39.trans' hf42).trans' hf45).trans' hf48
    have hf48' : Fr (fun _ => False) w2 w48 := hf25'.trans' hg48
    have hbx := hg48.keep (hf25.keep hb12 (by omega)) (by simp)
    have hby := hg48.keep hb25 (by simp)
    have lx : ∀ {g : Nat} {y : Ent}, w48.heap[g]? = some (.cells (encE y).toArray T_api_Entry (0, 0)) → (loadVar T_api_Entry ⟨g, 0, none⟩).run Tryd.prog w48 = .ok (.agg #[.int .i64 y.mode, .string y.name, .string y.id]) w48 := fun h =>
      load_agg (vs := encE _) (agg_of (by kernel_rfl)) (by kernel_rfl) fun k v hv => by rw [add_lit, Nat.zero_add, cell_blk h]; simpa [encE] using hv
    refine ⟨_, rfl, fun h => ?_, fun _ => ⟨_, _, _, lx hbx, _, _, _, lx hby, fun h => ?_, fun _ => ⟨fun h => ?_, fun _ => ⟨fun hnb => ⟨fun h => ?_, fun _ => ?_⟩, fun _ => ?_⟩⟩⟩⟩
    · cases hq : nameOK isGit x1 <;> rw [hq] at h <;> cases h
    · simp at h
    · rw [hb] at h
      by_cases h0 : (findE ys x1).2 = 0
      · simp [h0] at h
      · simp [h0] at h
    · rcases findE_val ys x1 with h0 | h0
      · rw [hb, decide_eq_true h0] at hnb; cases hnb
      · rw [h0] at h; simp at h
    all_goals
      refine (fewE_spec (hE.keep (hf2.trans' hf48') (by simp)) hc).mono ?_
      rintro e w57 ⟨l58, rfl, ho58, hf58⟩
      have hE58 := (hE.keep (hf2.trans' hf48') (by simp)).take600 ho58
      rw [hys] at hE58
      refine ⟨l58, rfl, (same_spec (hE2.keep (hf48'.trans' hf58) (by simp)) hE58 (by omega)).mono ?_⟩
      rintro e w60 ⟨⟨b, rfl, hb⟩, d60⟩
      have hbt : b = true := hb.2 rfl
      subst hbt
      exact ⟨_, rfl, fun h => (by cases h), fun _ => (hf48'.trans' hf58).trans' (.drew _ d60)⟩
  · intro w68 hf68
    have hW68 := hf2.trans' hf68
    refine ⟨fun hne => ?_, fun h0 => ?_⟩
    · have hne : checkE isGit ys ≠ 0 := fun e => by rw [e] at hne; simp at hne
      rw [if_neg hne]
      exact ⟨by rw [bs_eq]; rfl, up hW68⟩
    · have h0 : checkE isGit ys = 0 := by simpa using h0
      obtain ⟨hl5, hok⟩ := check_ok h0
      have hent := ok_mem hok
      have hbl := bytesE_len ys hent
      rw [if_pos h0]
      obtain ⟨s, hs⟩ : ∃ s : ByteArray, s = ⟨(bytesE ys).toArray⟩ := ⟨_, rfl⟩
      have hsd : s.data.toList = bytesE ys := by rw [hs, bs_mk]
      have hsz : s.size ≤ 1000000 := by rw [← bs_len, hsd]; omega
      rw [← hs]
      have hpb := parse_back h0 s hsd
      refine (parse_spec s hsz w68 (ht.keep hW68 (by simp))).mono ?_
      rw [hpb]
      rintro e w70 ⟨l71, rfl, ho71, hf70⟩
      have hf70' := hf68.trans' hf70
      refine ⟨l71, _, rfl, (rtext_spec (hE2.keep hf70' (by simp)) hent (by omega)).mono ?_⟩
      rw [← hs]
      rintro e w74 ⟨rfl, hf74⟩
      have hf74' := hf70'.trans' hf74
      refine ⟨_, rfl, fun _ => ⟨fun _ => ?_, fun h => ?_⟩, fun h => ?_⟩
      · have hE71 : Ents w74 l71.a l71.len ys := own_ents (m := 0) (ho71.keep hf74 (by simp)) hE2.name hE2.id
        refine (same_spec hE71 (hE2.keep hf74' (by simp)) (by have := hE71.len; omega)).mono ?_
        rintro e w77 ⟨⟨b, rfl, hb⟩, d77⟩
        have hbt : b = true := hb.2 rfl
        subst hbt
        exact ⟨_, rfl, rfl, up ((hf2.trans' hf74').trans' (.drew _ d77))⟩
      · simp at h
      · rw [bs_eq] at h; simp at h
end Go.Proofs.YtmihbbgojkbaeaaDoor
