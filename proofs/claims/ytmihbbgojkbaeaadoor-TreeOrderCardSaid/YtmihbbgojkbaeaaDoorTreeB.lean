/- The program's folders: Format, Parse, Find. Conditions: the table lies as its initialiser lays it; texts are no longer than memory. -/
import Derived.Test.YtmihbbgojkbaeaaDoorTreeA
import Derived.Shelf.Strings.Builder1
set_option linter.unusedVariables false
namespace Vc
open Go
theorem Fr.of_below {B : Nat} {w w' : World} (h : RowKit.Below B w w') : Fr (fun k => B ≤ k) w w' := ⟨h.os, h.tape, h.output, h.size, fun k _ hk => h.block k (by omega)⟩
/-- Outside what was there nothing was. -/
theorem Fr.old {X : Nat → Prop} {w w' : World} (h : Fr X w w') (hx : ∀ k, X k → w.heap.size ≤ k) : Fr (fun _ => False) w w' := h.mono fun k hk hxk => by have := hx k hxk; omega
theorem builder_keep {T e : TypeId} {B b : Nat} {bs : List Value} {w w' : World} (h : Lib.IsBuilder T e B b bs w) {X : Nat → Prop} (hf : Fr X w w') (hb : ¬ X b) (hx : ∀ k, B ≤ k → ¬ X k) : Lib.IsBuilder T e B b bs w' := by
  have key : ∀ p, Lib.BuilderAt T e B b p bs w → Lib.BuilderAt T e B b p bs w' := by
    rintro p ⟨h1, v, h2, ⟨h3, h4⟩, h5⟩
    refine ⟨h1, v, hf.keep h2 hb, ⟨h3, ?_⟩, h5⟩
    rcases h4 with hn | ⟨g, cap, cur, hv, hg, hh, r⟩
    · exact .inl hn
    · exact .inr ⟨g, cap, cur, hv, hg, hf.keep hh (hx g hg), r⟩
  exact h.imp (key _) (key _)
end Vc
namespace Go.Proofs.YtmihbbgojkbaeaaDoor
open Go Vc HexM TreeM Go.Proofs

theorem bwrite_spec (B b : Nat) (bs : List Value) (s : ByteArray) (w : World) (h : Lib.IsBuilder T_strings_Builder T_uint8 B b bs w) (hlen : bs.length + s.size ≤ 140737488355328) (hBw : B ≤ w.heap.size) :
    Calls Tryd.prog F_strings_Builder_WriteString #[.pointer (some ⟨b, 0, none⟩), .string s] w fun e w' => e = .returned (.tuple #[.int .i64 s.size, .nilIface]) ∧ Lib.IsBuilder T_strings_Builder T_uint8 B b (bs ++ Lib.strCells s) w' ∧ Fr (fun k => B ≤ k) w w' :=
  (Any.Builder_WriteString lays166 builderX166 B b bs s w h hlen hBw).mono fun e w' ⟨h1, h2, h3⟩ => ⟨h1, .inr h2, .of_below h3⟩
theorem bstring_spec (B b : Nat) (l : List UInt8) (w : World) (h : Lib.IsBuilder T_strings_Builder T_uint8 B b (Lib.byteCells l) w) (hBw : B ≤ w.heap.size) :
    Calls Tryd.prog F_strings_Builder_String #[.pointer (some ⟨b, 0, none⟩)] w fun e w' => e = .returned (.string ⟨l.toArray⟩) ∧ Fr (fun k => B ≤ k) w w' :=
  (Any.Builder_String_any lays169 builderX169 B b l w h hBw).mono fun e w' ⟨h1, h2⟩ => ⟨h1, .of_below h2⟩
theorem entB_len {x : Ent} (h : entOK isGit x = true) : (entB x).length ≤ 128 := by
  unfold entOK at h
  simp only [Bool.and_eq_true] at h
  obtain ⟨⟨_, hn⟩, hi⟩ := h
  have hm := modeText_size x.mode
  unfold nameOK at hn
  simp only [Bool.and_eq_true, decide_eq_true_eq] at hn
  have hsz := hn.1.1.1.1.2
  unfold isId at hi
  simp only [Bool.and_eq_true, beq_iff_eq] at hi
  obtain ⟨l, hl⟩ := Option.isSome_iff_exists.1 hi.1
  have := unhexL_len _ _ hl
  unfold entB
  simp only [List.length_append, bs_len, List.length_cons, List.length_nil, hl, Option.getD_some]
  omega
theorem bytesE_len : ∀ xs : List Ent, (∀ x ∈ xs, entOK isGit x = true) → (bytesE xs).length ≤ 128 * xs.length
  | [], _ => Nat.le_refl _
  | x :: r, h => by
    have h1 := entB_len (h x (by simp))
    have h2 := bytesE_len r fun y hy => h y (by simp [hy])
    unfold bytesE at h2 ⊢
    rw [List.flatMap_cons, List.length_append, List.length_cons]; omega
theorem ok_mem {xs : List Ent} (h : ∀ j, j < xs.length → okAt isGit xs j = true) : ∀ x ∈ xs, entOK isGit x = true := fun x hx => by
  obtain ⟨j, hj, rfl⟩ := List.getElem_of_mem hx
  exact ((okAt_iff (List.getElem?_eq_getElem hj)).1 (h j hj)).1
theorem bytesE_take {xs : List Ent} {k : Nat} {x : Ent} (h : xs[k]? = some x) : bytesE (xs.take (k + 1)) = bytesE (xs.take k) ++ entB x := by
  unfold bytesE
  rw [List.take_add_one, h, List.flatMap_append]
  simp
/-- 'Format'. -/
theorem format_spec {w : World} {a : Option Addr} {n c : Nat} {xs : List Ent} (hE : Ents w a n xs) (ht : Tab w) : Calls Tryd.prog F_tree_Format #[.slice a n c] w fun e w' =>
    e = .returned (.tuple #[.string (if checkE isGit xs = 0 then ⟨(bytesE xs).toArray⟩ else ⟨#[]⟩), .int .i64 (checkE isGit xs)]) ∧ Fr (fun _ => False) w w' := by
  refine vc_tree_Format_ok (R := fun v w' => v = .tuple #[.string (if checkE isGit xs = 0 then ⟨(bytesE xs).toArray⟩ else ⟨#[]⟩), .int .i64 (checkE isGit xs)] ∧ Fr (fun _ => False) w w') ?_ (fun v w' h => ⟨by rw [h.1], h.2⟩)
  have hlen := hE.len
  refine (check_spec hE ht).mono ?_
  rintro e w2 ⟨rfl, hf2⟩
  refine ⟨_, rfl, fun h => ⟨?_, hf2⟩, fun h w4 h4 => ?_⟩
  · rw [if_neg (fun e => by rw [e] at h; simp at h)]
  have h0 : checkE isGit xs = 0 := by simpa using h
  obtain ⟨hl5, hok⟩ := check_ok h0
  have hent := ok_mem hok
  rw [h0, if_pos rfl]
  subst h4
  have hB : w2.heap.size ≤ w2.heap.size := Nat.le_refl _
  refine ⟨fun i w' => ∃ k : Nat, i = k ∧ k ≤ n ∧ Lib.IsBuilder T_strings_Builder T_uint8 w2.heap.size w2.heap.size (Lib.byteCells (bytesE (xs.take k))) w' ∧ Fr (fun _ => False) w2 w', fun i _ => n - i.toNat, ⟨0, rfl, Nat.zero_le _, Lib.fresh_isBuilder _ _ _, .alloc _ _ _⟩, ?_⟩
  rintro i w8 ⟨k, rfl, hk, hb, hf⟩
  have hlb : (bytesE (xs.take k)).length ≤ 64000 := by
    have := bytesE_len (xs.take k) fun y hy => hent y (List.mem_of_mem_take hy)
    rw [List.length_take] at this; omega
  have hbs := hb.elim (fun h => h.lt) (fun h => h.lt)
  refine ⟨fun hlt => ?_, fun hge => ?_⟩
  · have hlt := of_decide_eq_true hlt
    have hkl : k < xs.length := by omega
    have hx : xs[k]? = some xs[k] := List.getElem?_eq_getElem hkl
    generalize xs[k] = x at hx
    have hxm : x ∈ xs := List.mem_of_getElem? hx
    have hxo := hent x hxm
    obtain ⟨ad, had, hload⟩ := (hE.reads.keep (hf2.trans' hf) (by simp)).load elE hx
    refine ⟨⟨by omega, by omega⟩, ad, had, x.mode, x.name, x.id, by rw [Int.toNat_natCast]; exact hload, fun w13 h13 => ?_⟩
    subst h13
    refine ⟨_, boxE_run w8 x, x.id, boxE_cell w8 x (.refl (fun _ => False) _) (by simp) (j := 2) rfl, (unhex_spec x.id (hE.id x hxm) _).mono ?_⟩
    rintro e w17 ⟨rfl, hf17⟩
    refine ⟨_, _, rfl, fun w20 d20 => ?_⟩
    have hb20 : Fr (fun _ => False) (w8.alloc (.cells (encE x).toArray T_api_Entry)) w20 := hf17.trans' (.drew _ d20)
    refine ⟨fun w' => Fr (fun _ => False) w20 w', .refl _ _, x.mode, fun w' hw' => boxE_cell w8 x (hb20.trans' hw') (by simp) (j := 0) rfl, x.name, fun w' hw' => boxE_cell w8 x (hb20.trans' hw') (by simp) (j := 1) rfl, (text_spec x.mode w20).mono ?_⟩
    rintro e w27 ⟨rfl, hw⟩
    replace hw := hw.symm
    subst hw
    have hel := entB_len hxo
    have hbytes : (modeText x.mode ++ ⟨⟨[32]⟩⟩ ++ x.name ++ ⟨⟨[0]⟩⟩ ++ unhexS x.id).data.toList = entB x := by
      have hu : (unhexS x.id).data.toList = (unhexL x.id.data.toList).getD [] := by
        unfold unhexS; cases unhexL x.id.data.toList <;> simp
      simp only [bs_app, entB, hu]
    have hsz : (modeText x.mode ++ ⟨⟨[32]⟩⟩ ++ x.name ++ ⟨⟨[0]⟩⟩ ++ unhexS x.id).size ≤ 128 := by rw [← bs_len, hbytes]; exact hel
    have hsz' := hsz
    simp only [ByteArray.size_append] at hsz'
    have hfw8 : Fr (fun _ => False) w8 w20 := (Fr.alloc _ _ _).trans' hb20
    have hb' := builder_keep hb hfw8 (by simp) (by simp)
    have h1 : (modeText x.mode).size + 1 ≤ 9223372036854775807 := by omega
    have h2 : (modeText x.mode ++ ⟨⟨[32]⟩⟩).size + x.name.size ≤ 9223372036854775807 := by simp only [ByteArray.size_append]; omega
    have h3 : (modeText x.mode ++ ⟨⟨[32]⟩⟩ ++ x.name).size + 1 ≤ 9223372036854775807 := by
      have : ByteArray.size ⟨⟨[0]⟩⟩ = 1 := rfl
      simp only [ByteArray.size_append]; omega
    have h4 : (modeText x.mode ++ ⟨⟨[32]⟩⟩ ++ x.name ++ ⟨⟨[0]⟩⟩).size + (unhexS x.id).size ≤ 9223372036854775807 := by simp only [ByteArray.size_append]; omega
    refine ⟨_, rfl, .refl _ _, h1, h2, h3, h4, ?_⟩
    have hS : Lib.strCells (modeText x.mode ++ ⟨⟨[32]⟩⟩ ++ x.name ++ ⟨⟨[0]⟩⟩ ++ unhexS x.id) = Lib.byteCells (entB x) := by
      unfold Lib.byteCells Lib.strCells; rw [hbytes]
    generalize modeText x.mode ++ ⟨⟨[32]⟩⟩ ++ x.name ++ ⟨⟨[0]⟩⟩ ++ unhexS x.id = S at hsz hS ⊢
    refine (bwrite_spec w2.heap.size w2.heap.size _ S w20 hb' (by rw [Lib.byteCells, List.length_map]; omega) (Nat.le_trans (Nat.le_of_lt hbs) hfw8.size)).mono ?_
    rintro e w30 ⟨rfl, hb30, hf30⟩
    have e1 : IntKind.i64.wrap ((k : Int) + 1) = ((k + 1 : Nat) : Int) := by rw [wrap_i64 (by omega) (by omega)]; omega
    rw [e1]
    have hb31 : Lib.IsBuilder T_strings_Builder T_uint8 w2.heap.size w2.heap.size (Lib.byteCells (bytesE (xs.take (k + 1)))) w30 := by
      have hcells : Lib.byteCells (bytesE (xs.take k)) ++ Lib.strCells S = Lib.byteCells (bytesE (xs.take (k + 1))) := by
        rw [bytesE_take hx, hS]
        unfold Lib.byteCells
        rw [List.map_append]
      rw [← hcells]
      exact hb30
    exact ⟨_, _, rfl, ⟨k + 1, rfl, by omega, hb31, ((hf.trans' hfw8).trans hf30 (fun q hq hh => by omega))⟩, by dsimp only; omega⟩
  · have hge := of_decide_eq_false hge
    have : k = xs.length := by omega
    rw [this, List.take_of_length_le (Nat.le_refl _)] at hb
    refine (bstring_spec w2.heap.size w2.heap.size _ w8 hb (Nat.le_of_lt hbs)).mono ?_
    rintro e w34 ⟨rfl, hf34⟩
    exact ⟨_, rfl, rfl, (hf2.trans' hf).trans hf34 fun q hq hh => by have := hf2.size; omega⟩
/-- What 'Parse' says. -/
def parseE : Nat → ByteArray → List Ent → List Ent × Int
  | 0, _, _ => ([], 6)
  | f + 1, s, acc =>
    if s = ⟨#[]⟩ then (if checkE isGit acc = 0 then (acc, 0) else ([], checkE isGit acc))
    else if (cutS s 0).2.2 = false then ([], 6)
    else if (cutS s 0).2.1.size < 20 then ([], 6)
    else if (cutS (cutS s 0).1 32).2.2 = false then ([], 3)
    else if textMode (cutS (cutS s 0).1 32).1 = 0 then ([], 3)
    else if 500 < acc.length + 1 then ([], 2)
    else parseE f ((cutS s 0).2.1.extract 20 (cutS s 0).2.1.size) (acc ++ [⟨textMode (cutS (cutS s 0).1 32).1, (cutS (cutS s 0).1 32).2.1, ⟨(hexL ((cutS s 0).2.1.extract 0 20).data.toList).toArray⟩⟩])
theorem cut_sizes (s : ByteArray) (c : UInt8) : (cutS s c).1.size + (cutS s c).2.1.size ≤ s.size ∧ ((cutS s c).2.2 = true → (cutS s c).1.size + (cutS s c).2.1.size + 1 = s.size) := by
  unfold cutS
  rcases fnd_cases s c with ⟨h, _⟩ | ⟨i, h, hi, _⟩
  · rw [h, if_pos rfl]
    refine ⟨?_, fun h => by cases h⟩
    show s.size + 0 ≤ s.size
    omega
  · rw [h, if_neg (by omega), Int.toNat_natCast]
    simp only [ByteArray.size_extract]
    exact ⟨by omega, fun _ => by omega⟩
/-- The entries' texts are no longer than what was read. -/
def Small (m : Nat) (xs : List Ent) : Prop := ∀ x ∈ xs, x.name.size ≤ m ∧ x.id.size = 40
theorem Small.ents {m : Nat} {xs : List Ent} (h : Small m xs) (hm : m ≤ 1000000000) {w : World} {base : Nat} {l : Sl} (ho : OwnK encE 3 w base T_api_Entry l xs) : Ents w l.a l.len xs :=
  ⟨ho.1, ho.reads fun _ => rfl, fun x hx => by have := (h x hx).1; omega, fun x hx => by have := (h x hx).2; omega⟩
theorem parse_small : ∀ (f : Nat) (s : ByteArray) (acc : List Ent) (m : Nat), Small m acc → s.size ≤ m → Small m (parseE f s acc).1
  | 0, _, _, _, _, _ => fun x hx => by simp [parseE] at hx
  | f + 1, s, acc, m, h, hs => by
    have no : ∀ e : Int, Small m (([], e) : List Ent × Int).1 := fun e x hx => by simp at hx
    rw [parseE]
    split
    · split
      · exact h
      · exact no _
    · split
      · exact no _
      · split
        · exact no _
        · split
          · exact no _
          · split
            · exact no _
            · split
              · exact no _
              · rename_i h1 h2 h3 h4 h5 h6
                have g1 := (cut_sizes s 0).2 (by simpa using h2)
                have g2 := (cut_sizes (cutS s 0).1 32).2 (by simpa using h4)
                refine parse_small f _ _ m (fun x hx => ?_) (by simp only [ByteArray.size_extract]; omega)
                rcases List.mem_append.1 hx with hx | hx
                · exact h x hx
                · simp only [List.mem_cons, List.mem_nil_iff, or_false] at hx
                  subst hx
                  refine ⟨by simp only; omega, ?_⟩
                  simp only [bs_mksize, hexL_length, bs_len, ByteArray.size_extract]; omega
/-- 'Parse'. -/
theorem parse_spec (s : ByteArray) (hs : s.size ≤ 1000000) (w : World) (ht : Tab w) : Calls Tryd.prog F_tree_Parse #[.string s] w fun e w' =>
    ∃ l, e = .returned (.tuple #[.slice l.a l.len l.cap, .int .i64 (parseE (s.size + 1) s []).2]) ∧ OwnK encE 3 w' w.heap.size T_api_Entry l (parseE (s.size + 1) s []).1 ∧ Fr (fun _ => False) w w' := by
  obtain ⟨r, hr⟩ : ∃ r, parseE (s.size + 1) s [] = r := ⟨_, rfl⟩
  rw [hr]
  refine vc_tree_Parse_ok (R := fun v w' => ∃ l, v = .tuple #[.slice l.a l.len l.cap, .int .i64 r.2] ∧ OwnK encE 3 w' w.heap.size T_api_Entry l r.1 ∧ Fr (fun _ => False) w w') ?_ (fun v w' ⟨l, h⟩ => ⟨l, by rw [h.1], h.2⟩)
  have err : ∀ {w' : World} {e : Int}, Fr (fun _ => False) w w' → r = ([], e) → ∃ l : Sl, Value.tuple #[.slice none 0 0, .int .i64 e] = .tuple #[.slice l.a l.len l.cap, .int .i64 r.2] ∧ OwnK encE 3 w' w.heap.size T_api_Entry l r.1 ∧ Fr (fun _ => False) w w' := fun {w' e} hf h =>
    ⟨⟨none, 0, 0⟩, by rw [h], by rw [h]; exact .nil _ _ _, hf⟩
  refine ⟨fun t l w' => ∃ f acc, t.size < f ∧ parseE f t acc = r ∧ t.size ≤ s.size ∧ Small s.size acc ∧ acc.length ≤ 500 ∧ OwnK encE 3 w' w.heap.size T_api_Entry l acc ∧ Fr (fun _ => False) w w', fun t _ _ => t.size, ⟨s.size + 1, [], by omega, hr, Nat.le_refl _, fun x hx => by simp at hx, Nat.zero_le _, .nil _ _ _, .refl _ _⟩, ?_⟩
  rintro t l4 w5 ⟨f, acc, hf1, hp, hts, hsm, hac, ho, hf⟩
  obtain ⟨f, rfl⟩ : ∃ g, f = g + 1 := ⟨f - 1, by omega⟩
  rw [parseE] at hp
  refine ⟨fun hne => ?_, fun he => ?_⟩
  · have hne : t ≠ ⟨#[]⟩ := by rw [bs_eq] at hne; simpa using hne
    rw [if_neg hne] at hp
    refine (cut_spec t (by omega) 0 (by decide) w5).mono ?_
    rintro e w7 ⟨rfl, d7⟩
    rw [show UInt8.ofNat 0 = 0 from rfl]
    have hf7 : Fr (fun _ => False) w w7 := hf.trans' (.drew _ d7)
    have hcs := cut_sizes t 0
    generalize cutS t 0 = cu at hp hcs
    obtain ⟨hd, rest, ok⟩ := cu
    simp only at hp hcs
    refine ⟨hd, rest, ok, rfl, fun hok => ?_, fun hok => ⟨fun hl => ?_, fun hl => ?_⟩⟩
    · have hok : ok = false := by simpa using hok
      rw [if_pos hok] at hp
      exact err hf7 hp.symm
    · have hok : ok = true := by simpa using hok
      have hl := of_decide_eq_true hl
      rw [if_neg (by rw [hok]; decide), if_pos (by omega)] at hp
      exact err hf7 hp.symm
    have hok : ok = true := by simpa using hok
    have hl := of_decide_eq_false hl
    rw [if_neg (by rw [hok]; decide), if_neg (by omega)] at hp
    have hcs2 := hcs.2 hok
    refine (cut_spec hd (by omega) 32 (by decide) w7).mono ?_
    rintro e w12 ⟨rfl, d12⟩
    rw [show UInt8.ofNat 32 = 32 from rfl]
    have hf12 : Fr (fun _ => False) w w12 := hf7.trans' (.drew _ d12)
    have hcd := cut_sizes hd 32
    generalize cutS hd 32 = cu at hp hcd
    obtain ⟨m, name, ok2⟩ := cu
    simp only at hp hcd
    refine ⟨m, name, ok2, rfl, fun hok2 => ?_, fun hok2 => (mode_spec m w12).mono ?_⟩
    · have hok2 : ok2 = false := by simpa using hok2
      rw [if_pos hok2] at hp
      exact err hf12 hp.symm
    have hok2 : ok2 = true := by simpa using hok2
    rw [if_neg (by rw [hok2]; decide)] at hp
    have hcd2 := hcd.2 hok2
    rintro e w17 ⟨rfl, hw⟩
    replace hw := hw.symm
    subst hw
    refine ⟨_, rfl, fun hm => ?_, fun hm w19 d19 => ?_⟩
    · rw [if_pos (eq_of_beq hm)] at hp
      exact err hf12 hp.symm
    have hm : ¬ textMode m = 0 := fun e => by rw [e] at hm; simp at hm
    rw [if_neg hm] at hp
    have hf19 : Fr (fun _ => False) w w19 := hf12.trans' (.drew _ d19)
    refine ⟨fun w' => True, trivial, ⟨by omega, by omega⟩, (mode_spec m w19).mono ?_⟩
    rintro e w22 ⟨rfl, hw⟩
    replace hw := hw.symm
    subst hw
    refine ⟨_, rfl, trivial, (hex_spec (rest.extract 0 20) (by simp; omega) w19).mono ?_⟩
    rintro e w25 ⟨rfl, hf25⟩
    refine ⟨_, rfl, trivial, fun w27 h27 => ⟨trivial, ?_⟩⟩
    have hfw : Fr (fun _ => False) w5 w25 := (((Fr.drew (fun _ => False) d7).trans' (.drew _ d12)).trans' (.drew _ d19)).trans' hf25
    have ho25 := ho.keep hfw (by simp)
    obtain ⟨w28, l29, hr28, ho28, hf28, _⟩ := append_oneK elE ho25 (x := ⟨textMode m, name, ⟨(hexL (rest.extract 0 20).data.toList).toArray⟩⟩) (by unfold maxLen; omega) (by omega) (Nat.le_trans hf.size hfw.size) h27
    have hfe : Fr (fun _ => False) w w28 := (hf.trans' hfw).trans hf28 fun q hq ⟨y, hy, e⟩ => by have := (ho25.blk hy).1; omega
    have hl29 := ho28.len
    rw [List.length_append, List.length_singleton] at hl29
    refine ⟨w28, l29, hr28, trivial, ⟨by decide, by omega⟩, fun hbig => ?_, fun hbig => ⟨⟨f, _, ?_, ?_, ?_, ?_, ?_, ho28, hfe⟩, ?_⟩⟩
    · have hbig := of_decide_eq_true hbig
      rw [if_pos (by omega)] at hp
      exact err hfe hp.symm
    · simp only [ByteArray.size_extract, Int.toNat]; omega
    · have hbig := of_decide_eq_false hbig
      rw [if_neg (by omega)] at hp
      exact hp
    · simp only [ByteArray.size_extract]; omega
    · intro x hx
      rcases List.mem_append.1 hx with hx | hx
      · exact hsm x hx
      · simp only [List.mem_cons, List.mem_nil_iff, or_false] at hx
        subst hx
        refine ⟨by simp only; omega, ?_⟩
        simp only [bs_mksize, hexL_length, bs_len, ByteArray.size_extract]; omega
    · have hbig := of_decide_eq_false hbig
      rw [List.length_append, List.length_singleton]; omega
    · simp only [ByteArray.size_extract, Int.toNat]; omega
  · have he : t = ⟨#[]⟩ := by rw [bs_eq] at he; simpa using he
    rw [if_pos he] at hp
    refine (check_spec (hsm.ents (by omega) ho) (ht.keep hf (by simp))).mono ?_
    rintro e w31 ⟨rfl, hf31⟩
    refine ⟨_, rfl, fun hc => ?_, fun hc => ?_⟩
    · rw [if_neg (fun e => by rw [e] at hc; simp at hc)] at hp
      exact err (hf.trans' hf31) hp.symm
    · have hc : checkE isGit acc = 0 := by simpa using hc
      rw [if_pos hc] at hp
      rw [← hp]
      exact ⟨l4, rfl, ho.keep hf31 (by simp), hf.trans' hf31⟩
/-- 'Find'. -/
def findE (xs : List Ent) (name : ByteArray) : Ent × Int := match xs.find? (fun x => decide (x.name = name)) with
  | some x => (x, 0)
  | none => (⟨0, ⟨#[]⟩, ⟨#[]⟩⟩, 7)
theorem find_take {xs : List Ent} {name : ByteArray} : ∀ {k : Nat} {x : Ent}, xs[k]? = some x → x.name = name → (∀ j y, j < k → xs[j]? = some y → y.name ≠ name) → findE xs name = (x, 0) := by
  intro k
  induction xs generalizing k with
  | nil => intro x h; simp at h
  | cons z r ih =>
    intro x h hn hno
    unfold findE
    cases k with
    | zero =>
      simp only [List.getElem?_cons_zero, Option.some.injEq] at h
      subst h
      rw [List.find?_cons_of_pos (by simp [hn])]
    | succ k =>
      have := hno 0 z (by omega) rfl
      rw [List.find?_cons_of_neg (by simp [this])]
      exact ih (by simpa using h) hn fun j y hj hy => hno (j + 1) y (by omega) (by simpa using hy)
theorem find_none {xs : List Ent} {name : ByteArray} (h : ∀ y ∈ xs, y.name ≠ name) : findE xs name = (⟨0, ⟨#[]⟩, ⟨#[]⟩⟩, 7) := by
  unfold findE
  rw [List.find?_eq_none.2 (fun y hy => by simpa using h y hy)]
theorem tfind_spec {w : World} {a : Option Addr} {n c : Nat} {xs : List Ent} (hE : Ents w a n xs) (hn : n ≤ 1000000) (name : ByteArray) : Calls Tryd.prog F_tree_Find #[.slice a n c, .string name] w fun e w' =>
    e = .returned (.tuple #[.agg #[.int .i64 (findE xs name).1.mode, .string (findE xs name).1.name, .string (findE xs name).1.id], .int .i64 (findE xs name).2]) ∧ Fr (fun _ => False) w w' := by
  refine vc_tree_Find_ok (R := fun v w' => v = .tuple #[.agg #[.int .i64 (findE xs name).1.mode, .string (findE xs name).1.name, .string (findE xs name).1.id], .int .i64 (findE xs name).2] ∧ Fr (fun _ => False) w w') ?_ (fun v w' h => ⟨by rw [h.1], h.2⟩)
  have hlen := hE.len
  intro w1 hw1
  have hblk : w1.heap[w.heap.size]? = some (.cells #[.int .i64 0, .string ⟨#[]⟩, .string ⟨#[]⟩] T_api_Entry (0, 0)) := by subst hw1; exact alloc_new _ _
  have hf1 : Fr (fun _ => False) w w1 := by subst hw1; exact .alloc _ _ _
  have hlt1 := lt_blk hblk
  clear hw1
  -- a struct stored into the result's block, and read again
  have put : ∀ {w' : World} (x : Ent), Fr (fun _ => False) w1 w' → ∃ w'', (storeVar T_api_Entry ⟨w.heap.size, 0, none⟩ (.agg #[.int .i64 x.mode, .string x.name, .string x.id])).run Tryd.prog w' = .ok () w'' ∧
      (loadVar T_api_Entry ⟨w.heap.size, 0, none⟩).run Tryd.prog w'' = .ok (.agg #[.int .i64 x.mode, .string x.name, .string x.id]) w'' ∧ Fr (fun _ => False) w w'' := fun {w'} x hf => by
    have hb' := hf.keep hblk (by simp)
    have hr := run_storeVar_row (P := Tryd.prog) w' w.heap.size T_api_Entry T_api_Entry _ #[.int .i64 x.mode, .string x.name, .string x.id] hb' (by kernel_rfl) rfl (by simp [Value.oneCell'])
    have hb'' := setRow_heap w' w.heap.size _ #[.int .i64 x.mode, .string x.name, .string x.id] T_api_Entry _ hb'
    refine ⟨_, hr, load_agg (vs := encE x) (agg_of (by kernel_rfl)) (by kernel_rfl) fun k v hv => ?_, ?_⟩
    · rw [add_lit, Nat.zero_add, cell_blk hb'']; simpa [encE] using hv
    · have : Fr (· = w.heap.size) w' (w'.setRow w.heap.size #[.int .i64 x.mode, .string x.name, .string x.id]) := ⟨rfl, rfl, rfl, by simp [World.setRow], fun q _ hq => setRow_other w' _ q _ hq⟩
      exact (hf1.trans' hf).trans this fun q hq e => by omega
  refine ⟨fun i w' => ∃ k : Nat, i = k ∧ k ≤ n ∧ (∀ j y, j < k → xs[j]? = some y → y.name ≠ name) ∧ Fr (fun _ => False) w1 w', fun i _ => n - i.toNat, ⟨0, rfl, Nat.zero_le _, fun j y hj => by omega, .refl _ _⟩, ?_⟩
  rintro i w5 ⟨k, rfl, hk, hno, hf⟩
  have e1 : IntKind.i64.wrap ((k : Int) + 1) = ((k + 1 : Nat) : Int) := by rw [wrap_i64 (by omega) (by omega)]; omega
  refine ⟨fun hlt => ?_, fun hge => ?_⟩
  · have hlt := of_decide_eq_true hlt
    have hkl : k < xs.length := by omega
    have hx : xs[k]? = some xs[k] := List.getElem?_eq_getElem hkl
    generalize xs[k] = x at hx
    obtain ⟨ad, had, hload⟩ := (hE.reads.keep (hf1.trans' hf) (by simp)).load elE hx
    refine ⟨⟨by omega, by omega⟩, ad, had, x.mode, x.name, x.id, by rw [Int.toNat_natCast]; exact hload, fun w10 h10 => ?_⟩
    subst h10
    refine ⟨_, boxE_run w5 x, x.name, boxE_cell w5 x (.refl (fun _ => False) _) (by simp) (j := 1) rfl, fun he => ?_, fun hne => ⟨⟨k + 1, e1, by omega, fun j y hj hy => ?_, hf.trans' (.alloc _ _ _)⟩, by rw [e1]; dsimp only; omega⟩⟩
    · have he : x.name = name := by rw [bs_eq] at he; exact of_decide_eq_true he
      obtain ⟨w16, hr16, hl16, hf16⟩ := put x (hf.trans' (.alloc _ _ (.cells (encE x).toArray T_api_Entry)))
      exact ⟨x.mode, x.name, x.id, boxE_load w5 x (.refl (fun _ => False) _) (by simp), w16, hr16, x.mode, x.name, x.id, hl16, by rw [find_take hx he hno], hf16⟩
    · by_cases hjk : j = k
      · subst hjk
        rw [hx] at hy; cases hy
        rw [bs_eq] at hne; exact of_decide_eq_false hne
      · exact hno j y (by omega) hy
  · have hge := of_decide_eq_false hge
    obtain ⟨w20, hr20, hl20, hf20⟩ := put ⟨0, ⟨#[]⟩, ⟨#[]⟩⟩ hf
    refine ⟨w20, hr20, 0, ⟨#[]⟩, ⟨#[]⟩, hl20, ?_, hf20⟩
    rw [find_none fun y hy => ?_]
    obtain ⟨j, hj⟩ := List.mem_iff_getElem?.1 hy
    exact hno j y (by have := (List.getElem?_eq_some_iff.1 hj).1; omega) hj
end Go.Proofs.YtmihbbgojkbaeaaDoor
