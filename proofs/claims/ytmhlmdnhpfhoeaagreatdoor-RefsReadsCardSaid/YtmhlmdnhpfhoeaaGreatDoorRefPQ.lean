/- References: Open, file, Lookup. Conditions: as named. -/
import Derived.Test.YtmhlmdnhpfhoeaaGreatDoorSnapX
import Derived.Test.YtmhlmdnhpfhoeaaGreatDoorRefNO
import Derived.Test.YtmhlmdnhpfhoeaaGreatDoorRefsO
import Derived.Test.YtmhlmdnhpfhoeaaGreatDoorHexFU
import Derived.Test.YtmhlmdnhpfhoeaaGreatDoorVcSls
import Derived.Test.YtmhlmdnhpfhoeaaGreatDoorStrA
set_option linter.unusedVariables false
namespace Go.Proofs.YtmhlmdnhpfhoeaaGreatDoor
open Go Vc HexM Go.Proofs

abbrev RowE := ByteArray × ByteArray × ByteArray
def encR (r : RowE) : ByteArray × Value := (r.1, .agg #[.string r.2.1, .string r.2.2])
def rlook : List RowE → ByteArray → Option (ByteArray × ByteArray)
  | [], _ => none
  | r :: rs, k => if r.1 = k then some r.2 else rlook rs k
def rupd : List RowE → ByteArray → ByteArray × ByteArray → List RowE
  | [], k, v => [(k, v)]
  | r :: rs, k, v => if r.1 = k then (k, v) :: rs else r :: rupd rs k v
theorem mlook_rows (k : ByteArray) : ∀ rows : List RowE, mlook (rows.map encR) k = (rlook rows k).map fun v => .agg #[.string v.1, .string v.2]
  | [] => rfl
  | (a, v) :: rs => by
    rw [List.map_cons, encR, mlook, rlook]
    by_cases h : a = k
    · rw [if_pos h, if_pos h]; rfl
    · rw [if_neg h, if_neg h, mlook_rows k rs]
theorem mupd_rows (k : ByteArray) (v : ByteArray × ByteArray) : ∀ rows : List RowE, mupd (rows.map encR) k (.agg #[.string v.1, .string v.2]) = (rupd rows k v).map encR
  | [] => rfl
  | (a, u) :: rs => by
    rw [List.map_cons, encR, mupd, rupd]
    by_cases h : a = k
    · rw [if_pos h, if_pos h]; rfl
    · rw [if_neg h, if_neg h, mupd_rows k v rs]; rfl
theorem rupd_len (k : ByteArray) (v : ByteArray × ByteArray) : ∀ rows : List RowE, (rupd rows k v).length = if (rlook rows k).isSome = true then rows.length else rows.length + 1
  | [] => rfl
  | (a, u) :: rs => by
    have ih := rupd_len k v rs
    rw [rupd, rlook]
    by_cases h : a = k
    · rw [if_pos h, if_pos h]; rfl
    · rw [if_neg h, if_neg h, List.length_cons, ih]
      split <;> rfl
theorem map_len {P : Program} {w : World} {mt kt et : TypeId} {r : Nat} {l : List (ByteArray × Value)} (hm : P.underlying mt = some (.map kt et)) (h : MapOf w r l) (ty : TypeId) :
    (Builtin.len_ #[mt] ty #[.map (some r)]).run P w = .ok (.int .i64 (l.length : Int)) w := by
  obtain ⟨es, clock, hb, hs, hl⟩ := h
  have hlen : es.size = l.length := by
    have := congrArg List.length hl
    simpa using this
  simp [Builtin.len_, run_underlying hm, MapKept.run_getObj_map hb, goInt, Result.andThen, hlen]
theorem row_zero (w : World) : (zeroValue T_refs_row).run Tryz.prog w = .ok (.agg #[.string ⟨#[]⟩, .string ⟨#[]⟩]) w := by kernel_rfl
theorem setRow_frR (X : Nat → Prop) (w : World) (g : Nat) (cs : Array Value) (h : X g) : Fr X w (w.setRow g cs) :=
  ⟨rfl, rfl, rfl, by simp [World.setRow], fun k _ hx => by
    simp only [World.setRow, Array.getElem?_modify]
    rw [if_neg (fun e => hx (by rw [← e]; exact h))]⟩
/-- What an index of references says. -/
def openF : Nat → ByteArray → List RowE → ByteArray → Except Int (List RowE)
  | 0, _, rows, _ => .ok rows
  | f + 1, s, rows, last => if s = ⟨#[]⟩ then .ok rows
    else if (cutS s 10).2.2 = false then .error 3
    else if begB (cutS s 10).1 ⟨#[35]⟩ = true then openF f (cutS s 10).2.1 rows last
    else if begB (cutS s 10).1 ⟨#[94]⟩ = true then
      (match rlook rows last with
       | none => .error 3
       | some x => if x.2 ≠ ⟨#[]⟩ then .error 3 else if isId (cutPre (cutS s 10).1 ⟨#[94]⟩).data.toList = false then .error 3 else openF f (cutS s 10).2.1 (rupd rows last (x.1, cutPre (cutS s 10).1 ⟨#[94]⟩)) last)
    else if (cutS (cutS s 10).1 32).2.2 = false then .error 3
    else if isId (cutS (cutS s 10).1 32).1.data.toList = false then .error 3
    else if nameB (cutS (cutS s 10).1 32).2.1 = false then .error 3
    else if (cutS (cutS s 10).1 32).2.1 = sHEAD then .error 3
    else if (rlook rows (cutS (cutS s 10).1 32).2.1).isSome = true then .error 4
    else if 2000 < rows.length + 1 then .error 2
    else openF f (cutS s 10).2.1 (rupd rows (cutS (cutS s 10).1 32).2.1 ((cutS (cutS s 10).1 32).1, ⟨#[]⟩)) (cutS (cutS s 10).1 32).2.1
def sPacked : ByteArray := ⟨#[112, 97, 99, 107, 101, 100, 45, 114, 101, 102, 115]⟩
def openE (ys : List FileE) : Except Int (List RowE) := if (getE ys sPacked).2 ≠ 0 then .ok [] else openF ((getE ys sPacked).1.size + 1) (getE ys sPacked).1 [] ⟨#[]⟩
/-- All references of a folder. -/
structure IsRefs (w : World) (rb b mb : Nat) (rows : List RowE) : Prop where
  blk : w.heap[rb]? = some (.cells #[.pointer (some ⟨b, 0, none⟩), .map (some mb)] T_refs_Refs (0, 0))
  rows : MapOf w mb (rows.map encR)
theorem IsRefs.keep {w w1 : World} {rb b mb : Nat} {rows : List RowE} (h : IsRefs w rb b mb rows) (hf : Fr (fun _ => False) w w1) : IsRefs w1 rb b mb rows := ⟨hf.keep h.blk (by simp), h.rows.keep hf (by simp)⟩
theorem cut_le (s : ByteArray) (c : UInt8) : (cutS s c).1.size ≤ s.size ∧ (cutS s c).2.1.size ≤ s.size ∧ ((cutS s c).2.2 = true → (cutS s c).2.1.size < s.size) := by
  have h := cut_sz s c
  refine ⟨by omega, by omega, fun he => by have := h.2 he; omega⟩
theorem cutPre_le (s t : ByteArray) : (cutPre s t).size ≤ s.size := by
  unfold cutPre
  split
  · rw [ByteArray.size_extract]; omega
  · exact Nat.le_refl _
theorem open_spec {w : World} {b : Nat} {l : Sl} {ys : List FileE} {size : Int} (hml : MaxL w) (h : IsSnap w b l ys size) (hs : Rising ys) (hd : ∀ x ∈ ys, x.data.size ≤ 140737488355328) : Calls Tryz.prog F_refs_Open #[.pointer (some ⟨b, 0, none⟩)] w fun e w' =>
    Fr (fun _ => False) w w' ∧ match openE ys with
      | .error n => e = .returned (.tuple #[.pointer none, .int .i64 n])
      | .ok rows => ∃ rb mb, e = .returned (.tuple #[.pointer (some ⟨rb, 0, none⟩), .int .i64 0]) ∧ w.heap.size ≤ rb ∧ w.heap.size ≤ mb ∧ IsRefs w' rb b mb rows := by
  refine vc_refs_Open_ok (R := fun v w' => Fr (fun _ => False) w w' ∧ match openE ys with
      | .error n => v = .tuple #[.pointer none, .int .i64 n]
      | .ok rows => ∃ rb mb, v = .tuple #[.pointer (some ⟨rb, 0, none⟩), .int .i64 0] ∧ w.heap.size ≤ rb ∧ w.heap.size ≤ mb ∧ IsRefs w' rb b mb rows) ?_ (fun v w' ⟨h1, h2⟩ => ⟨h1, by
        revert h2
        cases openE ys with
        | error n => exact fun h => by rw [h]
        | ok rows => exact fun ⟨rb, mb, h, r⟩ => ⟨rb, mb, by rw [h], r⟩⟩)
  intro w1 h1 w2 h2
  have hf1 : Fr (fun _ => False) w w1 := by rw [h1]; exact .alloc _ _ _
  have hs1 : w1.heap.size = w.heap.size + 1 := by rw [h1]; simp
  have hf2 : Fr (fun _ => False) w1 w2 := by rw [h2]; exact .alloc _ _ _
  have hm2 : MapOf w2 w.heap.size [] := MapOf.keep (by rw [h1]; exact MapOf.new) hf2 (by simp)
  have hr2 : w2.heap[w1.heap.size]? = some (.cells #[.pointer (some ⟨b, 0, none⟩), .map (some w.heap.size)] T_refs_Refs (0, 0)) := by rw [h2]; exact alloc_new _ _
  have hF2 := hf1.trans' hf2
  rw [hs1] at hr2 ⊢
  obtain ⟨n, hn⟩ : ∃ n, w.heap.size = n := ⟨_, rfl⟩
  rw [hn] at hr2 hm2 ⊢
  refine (get_spec (h.keep hF2) hs sPacked).mono ?_
  rintro e w4 ⟨rfl, hf4⟩
  have hF4 := hF2.trans' hf4
  have hdl : (getE ys sPacked).1.size ≤ 140737488355328 := by
    unfold getE
    cases hfnd : ys.find? (fun x => decide (x.path = sPacked)) with
    | none => exact Nat.zero_le _
    | some x => exact hd x (List.mem_of_find?_eq_some hfnd)
  have hopen : openE ys = if (getE ys sPacked).2 ≠ 0 then .ok [] else openF ((getE ys sPacked).1.size + 1) (getE ys sPacked).1 [] ⟨#[]⟩ := rfl
  generalize (getE ys sPacked).1 = text at hdl hopen ⊢
  generalize (getE ys sPacked).2 = er at hopen ⊢
  have res : ∀ {w' : World} {rows : List RowE}, Fr (fun _ => False) w w' → openE ys = .ok rows → w'.heap[n + 1]? = some (.cells #[.pointer (some ⟨b, 0, none⟩), .map (some n)] T_refs_Refs (0, 0)) → MapOf w' n (rows.map encR) →
      Fr (fun _ => False) w w' ∧ match openE ys with
      | .error m => Value.tuple #[.pointer (some ⟨n + 1, 0, none⟩), .int .i64 0] = .tuple #[.pointer none, .int .i64 m]
      | .ok rows => ∃ rb mb, Value.tuple #[.pointer (some ⟨n + 1, 0, none⟩), .int .i64 0] = .tuple #[.pointer (some ⟨rb, 0, none⟩), .int .i64 0] ∧ n ≤ rb ∧ n ≤ mb ∧ IsRefs w' rb b mb rows := fun hf ho hr hm => ⟨hf, by
        rw [ho]
        exact ⟨n + 1, n, rfl, by omega, Nat.le_refl _, hr, hm⟩⟩
  have bad : ∀ {w' : World} {k : Int}, Fr (fun _ => False) w w' → openE ys = .error k →
      Fr (fun _ => False) w w' ∧ match openE ys with
      | .error m => Value.tuple #[.pointer none, .int .i64 k] = .tuple #[.pointer none, .int .i64 m]
      | .ok rows => ∃ rb mb, Value.tuple #[.pointer none, .int .i64 k] = .tuple #[.pointer (some ⟨rb, 0, none⟩), .int .i64 0] ∧ n ≤ rb ∧ n ≤ mb ∧ IsRefs w' rb b mb rows := fun hf ho => ⟨hf, by rw [ho]⟩
  refine ⟨_, _, rfl, fun hne => res (rows := []) hF4 (by rw [hopen, if_pos (by simpa using hne)]) (hf4.keep hr2 (by simp)) (hm2.keep hf4 (by simp)), fun heq => ?_⟩
  have heq : er = 0 := by simpa using heq
  rw [if_neg (fun h => h heq)] at hopen
  refine ⟨fun s last w' => ∃ f rows, openE ys = openF (f + 1) s rows last ∧ s.size ≤ f ∧ s.size ≤ 140737488355328 ∧ Fr (fun _ => False) w w' ∧ w'.heap[n + 1]? = some (.cells #[.pointer (some ⟨b, 0, none⟩), .map (some n)] T_refs_Refs (0, 0)) ∧ MapOf w' n (rows.map encR), fun s _ _ => s.size,
    ⟨text.size, [], hopen, Nat.le_refl _, hdl, hF4, hf4.keep hr2 (by simp), hm2.keep hf4 (by simp)⟩, ?_⟩
  rintro s last w11 ⟨f, rows, ho, hsf, hsz, hF11, hr11, hm11⟩
  rw [openF] at ho
  refine ⟨fun hne => ?_, fun heq => ?_⟩
  rotate_left
  · rw [bs_eq] at heq
    have heq : s = ⟨#[]⟩ := by simpa using heq
    rw [if_pos heq] at ho
    exact res hF11 ho hr11 hm11
  rw [bs_eq] at hne
  have hne : s ≠ ⟨#[]⟩ := by simpa using hne
  have hpos : 0 < s.size := by
    rcases Nat.eq_zero_or_pos s.size with h0 | h0
    · exact absurd (bs_empty.2 h0) hne
    · exact h0
  rw [if_neg hne] at ho
  obtain ⟨f, rfl⟩ : ∃ g, f = g + 1 := ⟨f - 1, by omega⟩
  refine (cut_spec s hsz 10 (by decide) w11).mono ?_
  rintro e w13 ⟨rfl, d13⟩
  have hcl := cut_le s 10
  rw [show UInt8.ofNat 10 = 10 from rfl]
  generalize hc1 : (cutS s 10).1 = line at ho hcl ⊢
  generalize hc2 : (cutS s 10).2.1 = rest at ho hcl ⊢
  generalize hc3 : (cutS s 10).2.2 = ok at ho hcl ⊢
  have hF13 := hF11.trans' (.drew _ d13)
  have hr13 := (Fr.drew (fun _ => False) d13).keep hr11 (by simp)
  have hm13 := hm11.keep (Fr.drew (fun _ => False) d13) (by simp)
  refine ⟨_, _, _, rfl, fun hok => bad hF13 (by rw [ho, if_pos (by simpa using hok)]), fun hok => ?_⟩
  have hok : ok = true := by simpa using hok
  rw [if_neg (by rw [hok]; decide)] at ho
  have hlt := hcl.2.2 hok
  refine (hasPrefix_spec line _ w13).mono ?_
  rintro e w18 ⟨rfl, hw⟩
  replace hw := hw.symm
  subst hw
  refine ⟨_, rfl, fun hb => ⟨⟨f, rows, by rw [ho, if_pos hb], by omega, by omega, hF13, hr13, hm13⟩, hlt⟩, fun hb => ?_⟩
  rw [if_neg (fun e => by rw [e] at hb; cases hb)] at ho
  refine (cutPrefix_spec line _ w13).mono ?_
  rintro e w21 ⟨rfl, hw⟩
  replace hw := hw.symm
  subst hw
  have hpl := cutPre_le line ⟨#[94]⟩
  have hcm : w13.cell? ⟨n + 1, 1, none⟩ = some (.map (some n)) := by rw [cell_blk hr13]; rfl
  refine ⟨_, _, rfl, fun hb => ?_, fun hb => ?_⟩
  · rw [if_pos hb] at ho
    have hlk := map_lookup (P := Tryz.prog) (mt := T_map_string_refs_row) (kt := T_string) (et := T_refs_row) (by kernel_rfl) (by kernel_rfl) (row_zero w13) hm13 last true
    rw [mlook_rows] at hlk
    cases hx : rlook rows last with
    | none =>
      rw [hx] at hlk ho
      refine ⟨_, hcm, w13, _, _, _, hlk, fun w29 h29 => ?_⟩
      have hf29 : Fr (fun _ => False) w13 w29 := by rw [h29]; exact .alloc _ _ _
      have hb29 : w29.heap[w13.heap.size]? = some (.cells #[.string ⟨#[]⟩, .string ⟨#[]⟩] T_refs_row (0, 0)) := by rw [h29]; exact alloc_new _ _
      have hst := run_storeVar_row (P := Tryz.prog) w29 w13.heap.size T_refs_row T_refs_row _ #[.string ⟨#[]⟩, .string ⟨#[]⟩] hb29 (by kernel_rfl) rfl (by simp [Value.oneCell'])
      exact ⟨_, hst, fun _ => bad ((hF13.trans' hf29).trans (setRow_frR (· = w13.heap.size) w29 w13.heap.size _ rfl) fun q hq e => by have := hF13.size; omega) ho, fun h => by cases h⟩
    | some x =>
      rw [hx] at hlk ho
      simp only at ho
      refine ⟨_, hcm, w13, x.1, x.2, _, hlk, fun w29 h29 => ?_⟩
      have hf29 : Fr (fun _ => False) w13 w29 := by rw [h29]; exact .alloc _ _ _
      have hb29 : w29.heap[w13.heap.size]? = some (.cells #[.string ⟨#[]⟩, .string ⟨#[]⟩] T_refs_row (0, 0)) := by rw [h29]; exact alloc_new _ _
      have hst := run_storeVar_row (P := Tryz.prog) w29 w13.heap.size T_refs_row T_refs_row _ #[.string x.1, .string x.2] hb29 (by kernel_rfl) rfl (by simp [Value.oneCell'])
      have hf30 := setRow_frR (· = w13.heap.size) w29 w13.heap.size #[.string x.1, .string x.2] rfl
      have hb30 := setRow_heap w29 w13.heap.size _ #[.string x.1, .string x.2] T_refs_row (0, 0) hb29
      generalize w29.setRow w13.heap.size #[.string x.1, .string x.2] = w30 at hst hf30 hb30
      have hF30 : Fr (fun _ => False) w w30 := (hF13.trans' hf29).trans hf30 fun q hq e => by have := hF13.size; omega
      have hF30' : Fr (fun _ => False) w13 w30 := hf29.trans hf30 fun q hq e => by omega
      refine ⟨w30, hst, fun h => (by cases h), fun _ => ⟨x.2, by rw [cell_blk hb30]; rfl, ?_⟩⟩
      rw [bs_eq]
      refine ⟨fun hp => bad hF30 ?_, fun hp => (id_spec (cutPre line ⟨#[94]⟩) (Nat.le_trans (cutPre_le line ⟨#[94]⟩) (by omega)) w30).mono ?_⟩
      · rw [ho, if_pos (by simpa using hp)]
      rintro e w33 ⟨rfl, hf33⟩
      rw [if_neg (by simpa using hp)] at ho
      refine ⟨_, rfl, fun hi => bad (hF30.trans' hf33) ?_, fun hi w35 d35 => ?_⟩
      · rw [ho, if_pos (by simpa using hi)]
      rw [if_neg (by simpa using hi)] at ho
      have hf35 := (hF30'.trans' hf33).trans' (.drew _ d35)
      have hF35 := hF13.trans' hf35
      obtain ⟨w38, hup, hm38, hf38⟩ := map_update (P := Tryz.prog) (mt := T_map_string_refs_row) (kt := T_string) (et := T_refs_row) (by kernel_rfl) (by kernel_rfl) (hm13.keep hf35 (by simp)) last (.agg #[.string x.1, .string (cutPre line ⟨#[94]⟩)])
      rw [mupd_rows last (x.1, cutPre line ⟨#[94]⟩)] at hm38
      refine ⟨_, hf35.cell hcm (by simp), x.1, (hf33.trans' (.drew _ d35)).cell (by rw [cell_blk hb30]; rfl) (by simp), w38, hup, ⟨f, _, ho, by omega, by omega, hF35.trans hf38 fun q hq e => by omega, hf38.keep (hf35.keep hr13 (by simp)) (by omega), hm38⟩, hlt⟩
  · rw [if_neg (fun e => by rw [e] at hb; cases hb)] at ho
    refine (cut_spec line (by omega) 32 (by decide) w13).mono ?_
    rintro e w40 ⟨rfl, d40⟩
    have hcl2 := cut_le line 32
    rw [show UInt8.ofNat 32 = 32 from rfl]
    generalize hd1 : (cutS line 32).1 = id at ho hcl2 ⊢
    generalize hd2 : (cutS line 32).2.1 = name at ho hcl2 ⊢
    generalize hd3 : (cutS line 32).2.2 = ok2 at ho hcl2 ⊢
    have hF40 := hF13.trans' (.drew _ d40)
    refine ⟨_, _, _, rfl, fun hk => bad hF40 (by rw [ho, if_pos (by simpa using hk)]), fun hk => (id_spec _ (by omega) w40).mono ?_⟩
    rw [if_neg (by simpa using hk)] at ho
    rintro e w45 ⟨rfl, hf45⟩
    have hF45 := hF40.trans' hf45
    refine ⟨_, rfl, fun hk => bad hF45 (by rw [ho, if_pos (by simpa using hk)]), fun hk => (name_spec name (by omega) (hml.keep hF45)).mono ?_⟩
    rw [if_neg (by simpa using hk)] at ho
    rintro e w48 ⟨rfl, hf48⟩
    have hF48 := hF45.trans' hf48
    refine ⟨_, rfl, fun hk => bad hF48 (by rw [ho, if_pos (by simpa using hk)]), fun hk => ?_⟩
    rw [if_neg (by simpa using hk)] at ho
    rw [bs_eq]
    refine ⟨fun hk => bad hF48 (by rw [ho, if_pos (show name = sHEAD from of_decide_eq_true hk)]), fun hk => ?_⟩
    rw [if_neg (show ¬ name = sHEAD from of_decide_eq_false hk)] at ho
    have hf48' : Fr (fun _ => False) w13 w48 := ((Fr.drew _ d40).trans' hf45).trans' hf48
    have hm48 := hm13.keep hf48' (by simp)
    have hcm48 := hf48'.cell hcm (by simp)
    have hlk := map_lookup (P := Tryz.prog) (mt := T_map_string_refs_row) (kt := T_string) (et := T_refs_row) (by kernel_rfl) (by kernel_rfl) (row_zero w48) hm48 name true
    rw [mlook_rows] at hlk
    have key : ∀ (x1 x2 : ByteArray) (w55 : World), w55 = w48.alloc (.cells #[.string ⟨#[]⟩, .string ⟨#[]⟩] T_refs_row) → ∃ w56, (storeVar T_refs_row ⟨w48.heap.size, 0, none⟩ (.agg #[.string x1, .string x2])).run Tryz.prog w55 = .ok PUnit.unit w56 ∧ Fr (fun _ => False) w48 w56 := fun x1 x2 w55 h55 => by
      have hf55 : Fr (fun _ => False) w48 w55 := by rw [h55]; exact .alloc _ _ _
      have hb55 : w55.heap[w48.heap.size]? = some (.cells #[.string ⟨#[]⟩, .string ⟨#[]⟩] T_refs_row (0, 0)) := by rw [h55]; exact alloc_new _ _
      exact ⟨_, run_storeVar_row (P := Tryz.prog) w55 w48.heap.size T_refs_row T_refs_row _ #[.string x1, .string x2] hb55 (by kernel_rfl) rfl (by simp [Value.oneCell']), hf55.trans (setRow_frR (· = w48.heap.size) w55 w48.heap.size _ rfl) fun q hq e => by omega⟩
    cases hx : rlook rows name with
    | some x =>
      rw [hx] at hlk ho
      refine ⟨_, hcm48, w48, x.1, x.2, _, hlk, fun w55 h55 => ?_⟩
      obtain ⟨w56, k1, k2⟩ := key x.1 x.2 w55 h55
      exact ⟨w56, k1, fun _ => bad (hF48.trans' k2) (by rw [ho, if_pos (show (some x).isSome = true from rfl)]), fun h => by cases h⟩
    | none =>
      rw [hx] at hlk ho
      rw [if_neg (by decide)] at ho
      refine ⟨_, hcm48, w48, _, _, _, hlk, fun w55 h55 => ?_⟩
      obtain ⟨w56, k1, k2⟩ := key ⟨#[]⟩ ⟨#[]⟩ w55 h55
      have hf56 := hf48'.trans' k2
      have hF56 := hF48.trans' k2
      obtain ⟨w58, hup, hm58, hf58⟩ := map_update (P := Tryz.prog) (mt := T_map_string_refs_row) (kt := T_string) (et := T_refs_row) (by kernel_rfl) (by kernel_rfl) (hm13.keep hf56 (by simp)) name (.agg #[.string id, .string ⟨#[]⟩])
      rw [mupd_rows name (id, ⟨#[]⟩)] at hm58
      have hF58 : Fr (fun _ => False) w w58 := hF56.trans hf58 fun q hq e => by omega
      have hr58 := hf58.keep (hf56.keep hr13 (by simp)) (by omega)
      have hln := map_len (P := Tryz.prog) (mt := T_map_string_refs_row) (kt := T_string) (et := T_refs_row) (by kernel_rfl) hm58 T_int
      have hrl : ((rupd rows name (id, ⟨#[]⟩)).map encR).length = rows.length + 1 := by rw [List.length_map, rupd_len, hx]; rfl
      rw [hrl] at hln
      refine ⟨w56, k1, fun h => (by cases h), fun _ => ⟨_, hf56.cell hcm (by simp), w58, hup, _, by rw [cell_blk hr58]; rfl, w58, _, hln, fun hb => bad hF58 ?_, fun hb => ⟨⟨f, _, ?_, by omega, by omega, hF58, hr58, hm58⟩, hlt⟩⟩⟩
      · rw [ho, if_pos (by have := of_decide_eq_true hb; omega)]
      · rw [ho, if_neg (by have := of_decide_eq_false hb; omega)]
end Go.Proofs.YtmhlmdnhpfhoeaaGreatDoor
namespace Go.Proofs.YtmhlmdnhpfhoeaaGreatDoor
open Go Vc HexM Go.Proofs

def sRefSp : ByteArray := ⟨#[114, 101, 102, 58, 32]⟩
/-- What a reference's file says: a name, another reference, an error. -/
def fileE (ys : List FileE) (name : ByteArray) : ByteArray × ByteArray × Int :=
  if (getE ys name).2 ≠ 0 then (⟨#[]⟩, ⟨#[]⟩, (getE ys name).2)
  else if isId (cutSuf (getE ys name).1 ⟨#[10]⟩).data.toList = true ∧ sufL [10] (getE ys name).1.data.toList = true then (cutSuf (getE ys name).1 ⟨#[10]⟩, ⟨#[]⟩, 0)
  else if sufL [10] (getE ys name).1.data.toList = false then (⟨#[]⟩, ⟨#[]⟩, 3)
  else if begB (cutSuf (getE ys name).1 ⟨#[10]⟩) sRefSp = false then (⟨#[]⟩, ⟨#[]⟩, 3)
  else if nameB (cutPre (cutSuf (getE ys name).1 ⟨#[10]⟩) sRefSp) = false then (⟨#[]⟩, ⟨#[]⟩, 3)
  else (⟨#[]⟩, cutPre (cutSuf (getE ys name).1 ⟨#[10]⟩) sRefSp, 0)
theorem cutSuf_le (s t : ByteArray) : (cutSuf s t).size ≤ s.size := by
  unfold cutSuf
  split
  · rw [ByteArray.size_extract]; omega
  · exact Nat.le_refl _
theorem get_le {ys : List FileE} (hd : ∀ x ∈ ys, x.data.size ≤ 140737488355328) (name : ByteArray) : (getE ys name).1.size ≤ 140737488355328 := by
  unfold getE
  cases hfnd : ys.find? (fun x => decide (x.path = name)) with
  | none => exact Nat.zero_le _
  | some x => exact hd x (List.mem_of_find?_eq_some hfnd)
section
variable {w : World} {rb b mb : Nat} {l : Sl} {ys : List FileE} {size : Int} {rows : List RowE}
theorem file_spec (hml : MaxL w) (hr : IsRefs w rb b mb rows) (h : IsSnap w b l ys size) (hs : Rising ys) (hd : ∀ x ∈ ys, x.data.size ≤ 140737488355328) (name : ByteArray) : Calls Tryz.prog F_refs_Refs_file #[.pointer (some ⟨rb, 0, none⟩), .string name] w fun e w' =>
    e = .returned (.tuple #[.string (fileE ys name).1, .string (fileE ys name).2.1, .int .i64 (fileE ys name).2.2]) ∧ Fr (fun _ => False) w w' := by
  refine vc_refs_Refs_file_ok (R := fun v w' => v = .tuple #[.string (fileE ys name).1, .string (fileE ys name).2.1, .int .i64 (fileE ys name).2.2] ∧ Fr (fun _ => False) w w') ?_ (fun v w' h => ⟨by rw [h.1], h.2⟩)
  refine ⟨_, by rw [cell_blk hr.blk]; rfl, (get_spec h hs name).mono ?_⟩
  rintro e w3 ⟨rfl, hf3⟩
  have hle := get_le hd name
  have hE : fileE ys name = (if (getE ys name).2 ≠ 0 then (⟨#[]⟩, ⟨#[]⟩, (getE ys name).2)
    else if isId (cutSuf (getE ys name).1 ⟨#[10]⟩).data.toList = true ∧ sufL [10] (getE ys name).1.data.toList = true then (cutSuf (getE ys name).1 ⟨#[10]⟩, ⟨#[]⟩, 0)
    else if sufL [10] (getE ys name).1.data.toList = false then (⟨#[]⟩, ⟨#[]⟩, 3)
    else if begB (cutSuf (getE ys name).1 ⟨#[10]⟩) sRefSp = false then (⟨#[]⟩, ⟨#[]⟩, 3)
    else if nameB (cutPre (cutSuf (getE ys name).1 ⟨#[10]⟩) sRefSp) = false then (⟨#[]⟩, ⟨#[]⟩, 3)
    else (⟨#[]⟩, cutPre (cutSuf (getE ys name).1 ⟨#[10]⟩) sRefSp, 0)) := rfl
  have fin : ∀ {w' : World} {a c : ByteArray} {n : Int}, Fr (fun _ => False) w w' → fileE ys name = (a, c, n) → Value.tuple #[.string a, .string c, .int .i64 n] = .tuple #[.string (fileE ys name).1, .string (fileE ys name).2.1, .int .i64 (fileE ys name).2.2] ∧ Fr (fun _ => False) w w' := fun hf he => ⟨by rw [he], hf⟩
  generalize (getE ys name).1 = text at hE hle ⊢
  generalize (getE ys name).2 = er at hE ⊢
  refine ⟨_, _, rfl, fun hne => fin hf3 (by rw [hE, if_pos (by simpa using hne)]), fun heq => ?_⟩
  rw [if_neg (by simpa using heq)] at hE
  refine (cutSuffix_spec text ⟨#[10]⟩ hle w3).mono ?_
  rintro e w7 ⟨rfl, hw⟩
  replace hw := hw.symm
  subst hw
  have hll := cutSuf_le text ⟨#[10]⟩
  rw [show (⟨#[10]⟩ : ByteArray).data.toList = [10] from rfl]
  generalize cutSuf text ⟨#[10]⟩ = line at hE hll ⊢
  generalize sufL [10] text.data.toList = ok at hE ⊢
  refine ⟨_, _, rfl, fun w' => Fr (fun _ => False) w3 w' ∧ ¬ (isId line.data.toList = true ∧ ok = true), (id_spec line (by omega) w3).mono ?_, ?_⟩
  · rintro e w12 ⟨rfl, hf12⟩
    refine ⟨_, rfl, fun hi => ⟨fun hk => fin (hf3.trans' hf12) (by rw [hE, if_pos ⟨hi, hk⟩]), fun hk => ⟨hf12, fun hh => ?_⟩⟩, fun hi => ⟨hf12, fun hh => ?_⟩⟩
    · rw [hh.2] at hk; cases hk
    · rw [hh.1] at hi; cases hi
  · rintro w14 ⟨hf14, hno⟩
    rw [if_neg hno] at hE
    have hF14 := hf3.trans' hf14
    refine (cutPrefix_spec line sRefSp w14).mono ?_
    rintro e w16 ⟨rfl, hw⟩
    replace hw := hw.symm
    subst hw
    have hpl := cutPre_le line sRefSp
    refine ⟨_, _, rfl, fun hk => fin hF14 (by rw [hE, if_pos (by simpa using hk)]), fun hk => ⟨fun hb => fin hF14 ?_, fun hb => ?_⟩⟩
    · rw [hE, if_neg (by simpa using hk), if_pos (by simpa using hb)]
    refine (name_spec _ (by omega) (hml.keep hF14)).mono ?_
    rintro e w20 ⟨rfl, hf20⟩
    refine ⟨_, rfl, fun hn => fin (hF14.trans' hf20) ?_, fun hn => fin (hF14.trans' hf20) ?_⟩
    · rw [hE, if_neg (by simpa using hk), if_neg (by simpa using hb), if_pos (by simpa using hn)]
    · rw [hE, if_neg (by simpa using hk), if_neg (by simpa using hb), if_neg (by simpa using hn)]
/-- What is looked up. -/
def lookF (ys : List FileE) (rows : List RowE) : Nat → ByteArray → ByteArray × Int
  | 0, name => if (fileE ys name).2.2 = 7 then (match rlook rows name with | some x => (x.1, 0) | none => (⟨#[]⟩, 7))
    else if (fileE ys name).2.2 ≠ 0 ∨ (fileE ys name).1 ≠ ⟨#[]⟩ then ((fileE ys name).1, (fileE ys name).2.2) else (⟨#[]⟩, 9)
  | f + 1, name => if (fileE ys name).2.2 = 7 then (match rlook rows name with | some x => (x.1, 0) | none => (⟨#[]⟩, 7))
    else if (fileE ys name).2.2 ≠ 0 ∨ (fileE ys name).1 ≠ ⟨#[]⟩ then ((fileE ys name).1, (fileE ys name).2.2) else lookF ys rows f (fileE ys name).2.1
theorem lookF_eq (ys : List FileE) (rows : List RowE) (f : Nat) (name : ByteArray) : lookF ys rows f name = if (fileE ys name).2.2 = 7 then (match rlook rows name with | some x => (x.1, 0) | none => (⟨#[]⟩, 7))
    else if (fileE ys name).2.2 ≠ 0 ∨ (fileE ys name).1 ≠ ⟨#[]⟩ then ((fileE ys name).1, (fileE ys name).2.2)
    else (match f with | 0 => (⟨#[]⟩, 9) | f + 1 => lookF ys rows f (fileE ys name).2.1) := by
  cases f <;> rfl
def lookE (ys : List FileE) (rows : List RowE) (name : ByteArray) : ByteArray × Int := if nameB name = false then (⟨#[]⟩, 4) else lookF ys rows 5 name
theorem lookup_spec (hml : MaxL w) (hr : IsRefs w rb b mb rows) (h : IsSnap w b l ys size) (hs : Rising ys) (hd : ∀ x ∈ ys, x.data.size ≤ 140737488355328) (name : ByteArray) (hn : name.size ≤ 140737488355328) : Calls Tryz.prog F_refs_Refs_Lookup #[.pointer (some ⟨rb, 0, none⟩), .string name] w fun e w' =>
    e = .returned (.tuple #[.string (lookE ys rows name).1, .int .i64 (lookE ys rows name).2]) ∧ Fr (fun _ => False) w w' := by
  refine vc_refs_Refs_Lookup_ok (R := fun v w' => v = .tuple #[.string (lookE ys rows name).1, .int .i64 (lookE ys rows name).2] ∧ Fr (fun _ => False) w w') ?_ (fun v w' h => ⟨by rw [h.1], h.2⟩)
  have fin : ∀ {w' : World} {a : ByteArray} {n : Int}, Fr (fun _ => False) w w' → lookE ys rows name = (a, n) → Value.tuple #[.string a, .int .i64 n] = .tuple #[.string (lookE ys rows name).1, .int .i64 (lookE ys rows name).2] ∧ Fr (fun _ => False) w w' := fun hf he => ⟨by rw [he], hf⟩
  refine (name_spec name hn hml).mono ?_
  rintro e w2 ⟨rfl, hf2⟩
  refine ⟨_, rfl, fun hk => fin hf2 (by unfold lookE; rw [if_pos (by simpa using hk)]), fun hk => ?_⟩
  have hE : lookE ys rows name = lookF ys rows 5 name := by unfold lookE; rw [if_neg (by simpa using hk)]
  refine ⟨fun s z w' => Fr (fun _ => False) w w' ∧ ∃ f : Nat, f ≤ 5 ∧ z = ((5 - f : Nat) : Int) ∧ lookE ys rows name = lookF ys rows f s, fun _ z _ => 5 - z.toNat, ⟨hf2, 5, Nat.le_refl _, rfl, hE⟩, ?_⟩
  clear hE
  rintro s z w8 ⟨hf8, f, hf5, rfl, hE⟩
  refine (file_spec (hml.keep hf8) (hr.keep hf8) (h.keep hf8) hs hd s).mono ?_
  rintro e w10 ⟨rfl, hf10⟩
  have hF10 := hf8.trans' hf10
  rw [lookF_eq] at hE
  generalize (fileE ys s).1 = id at hE ⊢
  generalize (fileE ys s).2.1 = other at hE ⊢
  generalize (fileE ys s).2.2 = er at hE ⊢
  refine ⟨_, _, _, rfl, fun h7 => ?_, fun h7 => ⟨fun hne => fin hF10 ?_, fun hne => ⟨fun hid => fin hF10 ?_, fun hid => ⟨fun h5 => fin hF10 ?_, fun h5 => ?_⟩⟩⟩⟩
  · have h7 : er = 7 := by simpa using h7
    subst h7
    rw [if_pos rfl] at hE
    have hm10 := hr.rows.keep hF10 (by simp)
    have hlk := map_lookup (P := Tryz.prog) (mt := T_map_string_refs_row) (kt := T_string) (et := T_refs_row) (by kernel_rfl) (by kernel_rfl) (row_zero w10) hm10 s true
    rw [mlook_rows] at hlk
    have key : ∀ (x1 x2 : ByteArray) (w19 : World), w19 = w10.alloc (.cells #[.string ⟨#[]⟩, .string ⟨#[]⟩] T_refs_row) → ∃ w20, (storeVar T_refs_row ⟨w10.heap.size, 0, none⟩ (.agg #[.string x1, .string x2])).run Tryz.prog w19 = .ok PUnit.unit w20 ∧ w20.cell? ⟨w10.heap.size, 0, none⟩ = some (.string x1) ∧ Fr (fun _ => False) w10 w20 := fun x1 x2 w19 h19 => by
      have hf19 : Fr (fun _ => False) w10 w19 := by rw [h19]; exact .alloc _ _ _
      have hb19 : w19.heap[w10.heap.size]? = some (.cells #[.string ⟨#[]⟩, .string ⟨#[]⟩] T_refs_row (0, 0)) := by rw [h19]; exact alloc_new _ _
      refine ⟨_, run_storeVar_row (P := Tryz.prog) w19 w10.heap.size T_refs_row T_refs_row _ #[.string x1, .string x2] hb19 (by kernel_rfl) rfl (by simp [Value.oneCell']), ?_, hf19.trans (setRow_frR (· = w10.heap.size) w19 w10.heap.size _ rfl) fun q hq e => by omega⟩
      rw [cell_blk (setRow_heap w19 w10.heap.size _ #[.string x1, .string x2] T_refs_row (0, 0) hb19)]; rfl
    have hcm : w10.cell? ⟨rb, 1, none⟩ = some (.map (some mb)) := by rw [cell_blk (hF10.keep hr.blk (by simp))]; rfl
    cases hx : rlook rows s with
    | some x =>
      rw [hx] at hlk hE
      refine ⟨_, hcm, w10, x.1, x.2, _, hlk, fun w19 h19 => ?_⟩
      obtain ⟨w20, k1, k2, k3⟩ := key x.1 x.2 w19 h19
      exact ⟨w20, k1, fun _ => ⟨_, k2, fin (hF10.trans' k3) hE⟩, fun h => by cases h⟩
    | none =>
      rw [hx] at hlk hE
      refine ⟨_, hcm, w10, _, _, _, hlk, fun w19 h19 => ?_⟩
      obtain ⟨w20, k1, k2, k3⟩ := key ⟨#[]⟩ ⟨#[]⟩ w19 h19
      exact ⟨w20, k1, fun h => (by cases h), fun _ => fin (hF10.trans' k3) hE⟩
  all_goals
    have h7 : er ≠ 7 := by simpa using h7
    rw [if_neg h7] at hE
  · rw [hE, if_pos (.inl (by simpa using hne))]
  all_goals have hne : er = 0 := by simpa using hne
  · rw [bs_eq] at hid
    rw [hE, if_pos (.inr (by simpa using hid))]
  all_goals
    rw [bs_eq] at hid
    have hid : id = ⟨#[]⟩ := by simpa using hid
    rw [if_neg (fun hh => hh.elim (fun hh => hh hne) (fun hh => hh hid))] at hE
  · have hf0 : f = 0 := by have := eq_of_beq h5; omega
    subst hf0
    exact hE
  · obtain ⟨g, rfl⟩ : ∃ g, f = g + 1 := ⟨f - 1, by
      rcases Nat.eq_zero_or_pos f with h0 | h0
      · subst h0; simp at h5
      · omega⟩
    have e1 : IntKind.i64.wrap (((5 - (g + 1) : Nat) : Int) + 1) = ((5 - g : Nat) : Int) := by rw [wrap_i64 (by omega) (by omega)]; omega
    rw [e1]
    exact ⟨⟨hF10, g, by omega, rfl, hE⟩, by dsimp only; omega⟩
end
end Go.Proofs.YtmhlmdnhpfhoeaaGreatDoor
