/- The laws of folders walked. Conditions: the table that folds ASCII letters lies as its initialiser lays it; texts are no longer than memory. -/
import Derived.Test.YtmihbbgojkbaeaaDoorTreeL
set_option linter.unusedVariables false
namespace Go.Proofs.YtmihbbgojkbaeaaDoor
open Go Vc HexM TreeM Go.Proofs

theorem reads_blk {α : Type} {enc : α → List Value} {k : Nat} (hk : ∀ x, (enc x).length = k) {w : World} {g : Nat} {cs : Array Value} {e : TypeId} {fz : Nat × Nat} (h : w.heap[g]? = some (.cells cs e fz)) {xs : List α} (hc : cs.toList = xs.flatMap enc) : ReadsK enc k w (some ⟨g, 0, none⟩) xs := fun i x hx => by
  refine ⟨_, rfl, fun j v hv => ?_⟩
  have := flat_get hk xs i x j v hx hv
  rw [add_lit, add_lit, cell_blk h, Nat.zero_add, ← Array.getElem?_toList, hc]; exact this
def awakeId : ByteArray := ⟨#[101, 54, 57, 100, 101, 50, 57, 98, 98, 50, 100, 49, 100, 54, 52, 51, 52, 98, 56, 98, 50, 57, 97, 101, 55, 55, 53, 97, 100, 56, 99, 50, 101, 52, 56, 99, 53, 51, 57, 49]⟩
def awakeE : List Ent := [⟨33188, ⟨#[97, 46, 98]⟩, awakeId⟩, ⟨16384, ⟨#[97]⟩, awakeId⟩]
theorem awake_check : checkE isGit awakeE = 0 := by decide +kernel
theorem awake_bytes : ((bytesE awakeE).length == 59 && (bytesE awakeE).take 10 == [49, 48, 48, 54, 52, 52, 32, 97, 46, 98]) = true := by decide +kernel
theorem awake14_spec (w : World) (ht : Tab w) : Calls Tryd.prog F_cartularylaw14_awake #[] w fun e w' => e = .returned (.bool true) ∧ Fr (fun _ => False) w w' := by
  refine vc_cartularylaw14_awake_ok (R := fun v w' => v = .bool true ∧ Fr (fun _ => False) w w') ?_ (fun v w' h => ⟨by rw [h.1], h.2⟩)
  intro w1 h1
  have hf1 : Fr (fun _ => False) w w1 := by rw [h1]; exact .alloc _ _ _
  have hE : Ents w1 (some ⟨w.heap.size, 0, none⟩) 2 awakeE := by
    have hb : w1.heap[w.heap.size]? = some (.cells (awakeE.flatMap encE).toArray T_api_Entry (0, 0)) := by rw [h1]; exact alloc_new _ _
    refine ⟨rfl, reads_blk (enc := encE) (k := 3) (fun _ => rfl) hb rfl, fun x hx => ?_, fun x hx => ?_⟩
    all_goals
      simp only [awakeE, List.mem_cons, List.mem_nil_iff, or_false] at hx
      rcases hx with rfl | rfl <;> decide
  clear h1
  refine (format_spec hE (ht.keep hf1 (by simp))).mono ?_
  rw [awake_check, if_pos rfl]
  rintro e w3 ⟨rfl, hf3⟩
  have hb := awake_bytes
  rw [Bool.and_eq_true, beq_iff_eq, beq_iff_eq] at hb
  obtain ⟨hb1, hb2⟩ := hb
  generalize bytesE awakeE = L at hb1 hb2
  have hsz : (⟨L.toArray⟩ : ByteArray).size = 59 := by rw [bs_mksize]; exact hb1
  refine ⟨_, _, rfl, fun _ => ⟨fun _ => ⟨⟨by decide, by rw [hsz]; decide⟩, fun _ => ?_, fun h => ?_⟩, fun h => ?_⟩, fun h => (by cases h)⟩
  · refine (name_spec ⟨#[46, 71, 73, 84]⟩ (by decide) w3 (ht.keep (hf1.trans' hf3) (by simp))).mono ?_
    rintro e w7 ⟨rfl, hf7⟩
    refine ⟨_, rfl, ?_, hf1.trans' (hf3.trans' hf7)⟩
    rw [show nameOK isGit ⟨#[46, 71, 73, 84]⟩ = false by decide +kernel]; rfl
  · exfalso
    rw [bs_eq] at h
    refine of_decide_eq_false h (bs_ext ?_)
    rw [bs_head, bs_mk, show Int.toNat 10 = 10 from rfl, hb2]
  · rw [hsz] at h; simp at h
theorem own_ents {m : Nat} {w : World} {base : Nat} {l : Sl} {xs : List Ent} (ho : OwnK encE 3 w base T_api_Entry l xs) (h1 : ∀ x ∈ xs, x.name.size ≤ 140737488355328) (h2 : ∀ x ∈ xs, x.id.size ≤ 140737488355328) : Ents w l.a l.len xs := ⟨ho.1, ho.reads fun _ => rfl, h1, h2⟩
/-- 'TreeReads'. -/
theorem treeReads_walk (a0 : ByteArray) (W : World) (ht : Tab W) : Calls Tryd.prog F_cartularylaw14_TreeReads #[.string a0] W fun e w' => e = .returned (.bool true) ∧ RowKit.Below W.heap.size W w' := by
  refine vc_cartularylaw14_TreeReads_ok (R := fun v w' => v = .bool true ∧ Fr (fun k => W.heap.size ≤ k) W w') ?_ (fun v w' h => ⟨by rw [h.1], h.2.below (Nat.le_refl _)⟩)
  have up : ∀ {w' : World}, Fr (fun _ => False) W w' → Fr (fun k => W.heap.size ≤ k) W w' := fun h => h.mono fun _ _ h => h.elim
  refine (fewS_spec a0 2000 W).mono ?_
  rintro e w2 ⟨rfl, hw⟩
  replace hw := hw.symm
  subst hw
  have hs := fewS_len a0 2000
  generalize (if a0.size > 2000 then a0.extract 0 2000 else a0) = s at hs
  refine ⟨s, rfl, (parse_spec s (by omega) W ht).mono ?_⟩
  rintro e w5 ⟨l6, rfl, ho6, hf5⟩
  refine ⟨l6, _, rfl, (rparse_spec s (by omega) w5).mono ?_⟩
  rintro e w9 ⟨l10, rfl, ho10, hf9⟩
  refine ⟨l10, _, rfl, (awake14_spec w9 (ht.keep (hf5.trans' hf9) (by simp))).mono ?_⟩
  rintro e w13 ⟨rfl, hf13⟩
  have hsm := parse_small (s.size + 1) s [] s.size (fun x hx => by simp at hx) (Nat.le_refl _)
  have hbytes := parse_bytes (s.size + 1) s []
  have hlen := parse_len (s.size + 1) s [] (Nat.zero_le _)
  generalize parseE (s.size + 1) s [] = r at ho6 ho10 hsm hbytes hlen ⊢
  obtain ⟨xs, er⟩ := r
  dsimp only at ho6 ho10 hsm hbytes hlen ⊢
  have hf13' : Fr (fun _ => False) W w13 := (hf5.trans' hf9).trans' hf13
  have hE6 := hsm.ents (by omega) (ho6.keep (hf9.trans' hf13) (by simp))
  have hE10 := hsm.ents (by omega) (ho10.keep hf13 (by simp))
  refine ⟨_, rfl, fun h => (by cases h), fun _ => ⟨fun h => ?_, fun _ => (same_spec hE6 hE10 (by rw [← hE6.len]; omega)).mono ?_⟩⟩
  · simp at h
  rintro e w16 ⟨⟨b, rfl, hb⟩, d16⟩
  have hbt : b = true := hb.2 rfl
  subst hbt
  refine ⟨_, rfl, fun h => (by cases h), fun _ => ⟨fun _ => ⟨rfl, up (hf13'.trans' (.drew _ d16))⟩, fun h0 => ?_⟩⟩
  have h0 : er = 0 := by simpa using h0
  subst h0
  obtain ⟨hc, hby⟩ := hbytes xs rfl
  have hf16 := hf13'.trans' (Fr.drew (fun _ => False) d16)
  refine (format_spec (hE6.keep (.drew (fun _ => False) d16) (by simp)) (ht.keep hf16 (by simp))).mono ?_
  rw [hc, if_pos rfl]
  rintro e w19 ⟨rfl, hf19⟩
  refine ⟨_, _, rfl, fun _ => ⟨?_, up (hf16.trans' hf19)⟩, fun h => (by cases h)⟩
  rw [bs_eq, decide_eq_true]
  refine bs_ext ?_
  rw [bs_mk, hby]; rfl
/-- What came in. -/
theorem ents_of {W : World} {a : Option Addr} : ∀ (n : Nat), IsRows 3 (fun vs => ∃ x0 x1 x2, vs = [.int .i64 x0, .string x1, .string x2] ∧ (Lit.int .i64 x0).wf = true ∧ x1.size ≤ reachBytes ∧ x2.size ≤ reachBytes) W a n → ∃ xs, Ents W a n xs
  | 0, _ => ⟨[], rfl, .nil _ _, fun x hx => by simp at hx, fun x hx => by simp at hx⟩
  | n + 1, h => by
    obtain ⟨xs, hE⟩ := ents_of n fun i hi => h i (by omega)
    obtain ⟨ad, vs, had, hl, ⟨x0, x1, x2, rfl, h0, h1, h2⟩, hc⟩ := h n (by omega)
    have hml : reachBytes ≤ 140737488355328 := by decide
    refine ⟨xs ++ [⟨x0, x1, x2⟩], by rw [List.length_append, hE.len]; rfl, fun i x hx => ?_, fun x hx => ?_, fun x hx => ?_⟩
    · by_cases hi : i < xs.length
      · rw [List.getElem?_append_left hi] at hx
        exact hE.reads i x hx
      · rw [List.getElem?_append_right (by omega)] at hx
        have hi0 : i - xs.length = 0 := by
          by_cases h : i - xs.length = 0
          · exact h
          · rw [List.getElem?_eq_none (by simp; omega)] at hx; cases hx
        rw [hi0] at hx
        simp only [List.getElem?_cons_zero, Option.some.injEq] at hx
        subst hx
        refine ⟨ad, had, fun j v hv => ?_⟩
        have := hc j v hv
        rw [add_add, show i = n by have := hE.len; omega]
        exact this
    · rcases List.mem_append.1 hx with hx | hx
      · exact hE.name x hx
      · simp only [List.mem_cons, List.mem_nil_iff, or_false] at hx
        subst hx; simp only; omega
    · rcases List.mem_append.1 hx with hx | hx
      · exact hE.id x hx
      · simp only [List.mem_cons, List.mem_nil_iff, or_false] at hx
        subst hx; simp only; omega
theorem Ents.take600 {w : World} {a : Option Addr} {n : Nat} {xs : List Ent} (h : Ents w a n xs) {w' : World} {base : Nat} {l : Sl} (ho : OwnK encE 3 w' base T_api_Entry l (xs.take 600)) : Ents w' l.a l.len (xs.take 600) :=
  ⟨ho.1, ho.reads fun _ => rfl, fun x hx => h.name x (List.mem_of_mem_take hx), fun x hx => h.id x (List.mem_of_mem_take hx)⟩
theorem one_ents {w w1 : World} {x : Ent} (h1 : w1 = w.alloc (.cells (encE x).toArray T_api_Entry)) (hn : x.name.size ≤ 140737488355328) (hi : x.id.size ≤ 140737488355328) : Ents w1 (some ⟨w.heap.size, 0, none⟩) 1 [x] := by
  have hb : w1.heap[w.heap.size]? = some (.cells ([x].flatMap encE).toArray T_api_Entry (0, 0)) := by rw [h1]; exact alloc_new _ _
  refine ⟨rfl, reads_blk (enc := encE) (k := 3) (fun _ => rfl) hb rfl, fun y hy => ?_, fun y hy => ?_⟩
  · simp only [List.mem_cons, List.mem_nil_iff, or_false] at hy; subst hy; exact hn
  · simp only [List.mem_cons, List.mem_nil_iff, or_false] at hy; subst hy; exact hi
theorem one_good {x : Ent} : checkE isGit [x] = if entOK isGit x = true then 0 else 4 := by
  unfold checkE
  rw [if_neg (by simp)]
  have : good isGit [x] = true ↔ entOK isGit x = true := by
    rw [good_pair]
    simp
  by_cases h : entOK isGit x = true
  · rw [if_pos h, if_pos (this.2 h)]
  · rw [if_neg h, if_neg (fun g => h (this.1 g))]
theorem awakeId_ok : isId awakeId.data.toList = true := by decide +kernel
theorem plain_ok (s : ByteArray) : entOK isGit ⟨33188, s, awakeId⟩ = nameOK isGit s := by
  unfold entOK
  simp only
  rw [awakeId_ok, show decide (modeText 33188 ≠ ⟨#[]⟩) = true by decide +kernel]
  simp
theorem slashed_no {s : ByteArray} (h : slashed s = false) {k : Nat} (hk : k < s.size) : byt s k ≠ 47 ∧ byt s k ≠ 0 := by
  unfold slashed at h
  rw [List.any_eq_false] at h
  have := h _ (List.mem_of_getElem? (bs_get hk))
  constructor
  · intro e; rw [e] at this; exact this (by decide)
  · intro e; rw [e] at this; exact this (by decide)
/-- 'TreeNames'. -/
theorem treeNames_walk (a0 : ByteArray) (h0 : a0.size ≤ reachBytes) (W : World) (ht : Tab W) : Calls Tryd.prog F_cartularylaw14_TreeNames #[.string a0] W fun e w' => e = .returned (.bool true) ∧ RowKit.Below W.heap.size W w' := by
  refine vc_cartularylaw14_TreeNames_ok (R := fun v w' => v = .bool true ∧ Fr (fun k => W.heap.size ≤ k) W w') ?_ (fun v w' h => ⟨by rw [h.1], h.2.below (Nat.le_refl _)⟩)
  have up : ∀ {w' : World}, Fr (fun _ => False) W w' → Fr (fun k => W.heap.size ≤ k) W w' := fun h => h.mono fun _ _ h => h.elim
  have hml : reachBytes ≤ 140737488355328 := by decide
  have hid : awakeId.size ≤ 140737488355328 := by decide
  refine (name_spec a0 (by omega) W ht).mono ?_
  rintro e w2 ⟨rfl, hf2⟩
  refine ⟨_, rfl, fun hb w4 h4 => ?_, fun hb => ?_⟩
  · have hb : nameOK isGit a0 = false := by simpa using hb
    have hE := one_ents (x := ⟨33188, a0, awakeId⟩) h4 (by simp only; omega) hid
    have hf4 : Fr (fun _ => False) W w4 := hf2.trans' (by rw [h4]; exact .alloc _ _ _)
    refine (format_spec hE (ht.keep hf4 (by simp))).mono ?_
    rw [one_good, plain_ok, hb, if_neg (by decide)]
    rintro e w6 ⟨rfl, hf6⟩
    refine ⟨_, _, rfl, (awake14_spec w6 (ht.keep (hf4.trans' hf6) (by simp))).mono ?_⟩
    rintro e w10 ⟨rfl, hf10⟩
    exact ⟨_, rfl, fun _ => ⟨rfl, up ((hf4.trans' hf6).trans' hf10)⟩, fun h => (by cases h)⟩
  · have hb : nameOK isGit a0 = true := by simpa using hb
    have hparts := hb
    unfold nameOK at hparts
    simp only [Bool.and_eq_true, decide_eq_true_eq, Bool.not_eq_true'] at hparts
    obtain ⟨⟨⟨⟨⟨p1, p2⟩, p3⟩, p4⟩, p5⟩, p6⟩ := hparts
    refine ⟨fun i w' => w' = w2 ∧ ∃ k : Nat, i = k ∧ k ≤ a0.size, fun i _ => a0.size - i.toNat, ⟨rfl, 0, rfl, Nat.zero_le _⟩, ?_⟩
    rintro i w15 ⟨hw, k, rfl, hk⟩
    replace hw := hw.symm
    subst hw
    have e1 : IntKind.i64.wrap ((k : Int) + 1) = ((k + 1 : Nat) : Int) := by rw [wrap_i64 (by omega) (by omega)]; omega
    rw [e1]
    refine ⟨fun hlt => ?_, fun hge w16 h16 => ?_⟩
    · have hlt := of_decide_eq_true hlt
      obtain ⟨q1, q2⟩ := slashed_no p6 (show k < a0.size by omega)
      rw [byteAt_nat]
      refine ⟨⟨by omega, by omega⟩, fun h => ?_, fun _ => ⟨⟨by omega, by omega⟩, fun h => ?_, fun _ => ⟨⟨rfl, k + 1, rfl, by omega⟩, by dsimp only; omega⟩⟩⟩
      · have := eq_of_beq h; omega
      · have := eq_of_beq h; omega
    · have hE := one_ents (x := ⟨33188, a0, awakeId⟩) h16 (by simp only; omega) hid
      have hf16 : Fr (fun _ => False) W w16 := hf2.trans' (by rw [h16]; exact .alloc _ _ _)
      refine (format_spec hE (ht.keep hf16 (by simp))).mono ?_
      rw [one_good, plain_ok, hb, if_pos rfl, if_pos rfl]
      rintro e w18 ⟨rfl, hf18⟩
      refine ⟨_, _, rfl, (awake14_spec w18 (ht.keep (hf16.trans' hf18) (by simp))).mono ?_⟩
      rintro e w22 ⟨rfl, hf22⟩
      have hfe := (hf16.trans' hf18).trans' hf22
      have hsz := (entB_size (x := ⟨33188, a0, awakeId⟩) (by rw [plain_ok]; exact hb)).1
      rw [if_neg (show ¬ (33188 : Int) = 16384 by decide)] at hsz
      simp only at hsz
      have hbs : (⟨(bytesE [⟨33188, a0, awakeId⟩]).toArray⟩ : ByteArray).size = a0.size + 28 := by
        rw [bs_mksize]
        unfold bytesE
        rw [List.flatMap_cons, List.flatMap_nil, List.append_nil]; omega
      have e2 : IntKind.i64.wrap ((a0.size : Int) + 28) = ((a0.size + 28 : Nat) : Int) := by rw [wrap_i64 (by omega) (by omega)]; omega
      have hpos : 1 ≤ a0.size := by
        rw [Ne, bs_empty] at p1; omega
      refine ⟨_, rfl, fun _ => ⟨fun _ => ⟨fun _ => ⟨fun _ => ⟨fun _ => ⟨fun _ => ?_, fun h => ?_⟩, fun h => ?_⟩, fun h => ?_⟩, fun h => ?_⟩, fun h => (by cases h)⟩, fun h => (by cases h)⟩
      · refine (name_spec ⟨#[46, 103, 73, 116]⟩ (by decide) w22 (ht.keep hfe (by simp))).mono ?_
        rintro e w25 ⟨rfl, hf25⟩
        refine ⟨_, rfl, ?_, up (hfe.trans' hf25)⟩
        rw [show nameOK isGit ⟨#[46, 103, 73, 116]⟩ = false by decide +kernel]; rfl
      · rw [bs_eq] at h
        have h : a0 = ⟨#[46, 46]⟩ := by simpa using h
        exact absurd h p4
      · have := of_decide_eq_false h; omega
      · have := of_decide_eq_false h; omega
      · rw [hbs, e2] at h; simp at h
/-- 'TreeLengths'. -/
theorem treeLengths_walk {a : Option Addr} {n c : Nat} {W : World} {xs : List Ent} (hE : Ents W a n xs) (hc : n ≤ c) (ht : Tab W) : Calls Tryd.prog F_cartularylaw14_TreeLengths #[.slice a n c] W fun e w' => e = .returned (.bool true) ∧ RowKit.Below W.heap.size W w' := by
  refine vc_cartularylaw14_TreeLengths_ok (R := fun v w' => v = .bool true ∧ Fr (fun k => W.heap.size ≤ k) W w') ?_ (fun v w' h => ⟨by rw [h.1], h.2.below (Nat.le_refl _)⟩)
  have up : ∀ {w' : World}, Fr (fun _ => False) W w' → Fr (fun k => W.heap.size ≤ k) W w' := fun h => h.mono fun _ _ h => h.elim
  refine (fewE_spec hE hc).mono ?_
  rintro e w2 ⟨l3, rfl, ho, hf2⟩
  have hE2 := hE.take600 ho
  generalize xs.take 600 = ys at ho hE2
  refine ⟨l3, rfl, (format_spec hE2 (ht.keep hf2 (by simp))).mono ?_⟩
  rintro e w5 ⟨rfl, hf5⟩
  have hf5' := hf2.trans' hf5
  refine ⟨_, _, rfl, fun hne => ?_, fun h0 => ?_⟩
  · have hne : checkE isGit ys ≠ 0 := fun e => by rw [e] at hne; simp at hne
    refine (awake14_spec w5 (ht.keep hf5' (by simp))).mono ?_
    rintro e w9 ⟨rfl, hf9⟩
    rw [if_neg hne]
    exact ⟨_, rfl, fun _ => ⟨by rw [bs_eq]; rfl, up (hf5'.trans' hf9)⟩, fun h => (by cases h)⟩
  have h0 : checkE isGit ys = 0 := by simpa using h0
  obtain ⟨hl5, hok⟩ := check_ok h0
  have hent := ok_mem hok
  rw [if_pos h0]
  have hlen := hE2.len
  refine ⟨fun m i w' => ∃ k : Nat, i = k ∧ k ≤ ys.length ∧ m = ((bytesE (ys.take k)).length : Int) ∧ Fr (fun _ => False) w5 w', fun _ i _ => ys.length - i.toNat, ⟨0, rfl, Nat.zero_le _, rfl, .refl _ _⟩, ?_⟩
  rintro m i w15 ⟨k, rfl, hk, rfl, hf⟩
  have e1 : IntKind.i64.wrap ((k : Int) + 1) = ((k + 1 : Nat) : Int) := by rw [wrap_i64 (by omega) (by omega)]; omega
  rw [e1]
  refine ⟨fun hlt => ?_, fun hge => ?_⟩
  · have hlt := of_decide_eq_true hlt
    have hkl : k < ys.length := by omega
    have hx : ys[k]? = some ys[k] := List.getElem?_eq_getElem hkl
    generalize ys[k] = x at hx
    have hxo := hent x (List.mem_of_getElem? hx)
    obtain ⟨ad, had, hload⟩ := (hE2.reads.keep (hf5.trans' hf) (by simp)).load elE hx
    refine ⟨⟨by omega, by omega⟩, ad, had, x.mode, x.name, x.id, by rw [Int.toNat_natCast]; exact hload, fun w20 h20 => ?_⟩
    subst h20
    have hfb := hf.trans' (Fr.alloc (fun _ => False) w15 (.cells (encE x).toArray T_api_Entry))
    obtain ⟨hsz, hn⟩ := entB_size hxo
    have hlb : (bytesE (ys.take k)).length ≤ 64000 := by
      have := bytesE_len (ys.take k) fun y hy => hent y (List.mem_of_mem_take hy)
      rw [List.length_take] at this; omega
    have hnext : (bytesE (ys.take (k + 1))).length = (bytesE (ys.take k)).length + (entB x).length := by rw [bytesE_take hx, List.length_append]
    have e3 : IntKind.i64.wrap (IntKind.i64.wrap (6 + (x.name.size : Int)) + 22) = ((x.name.size + 28 : Nat) : Int) := by
      rw [wrap_i64 (x := 6 + (x.name.size : Int)) (by omega) (by omega), wrap_i64 (by omega) (by omega)]; omega
    refine ⟨_, boxE_run w15 x, x.name, boxE_cell w15 x (.refl (fun _ => False) _) (by simp) (j := 1) rfl, x.mode, boxE_cell w15 x (.refl (fun _ => False) _) (by simp) (j := 0) rfl, fun hm => ⟨⟨k + 1, rfl, by omega, ?_, hfb⟩, by dsimp only; omega⟩, fun hm => ⟨⟨k + 1, rfl, by omega, ?_, hfb⟩, by dsimp only; omega⟩⟩
    · rw [if_pos (eq_of_beq hm)] at hsz
      rw [e3, wrap_i64 (x := ((bytesE (ys.take k)).length : Int) + ((x.name.size + 28 : Nat) : Int)) (by omega) (by omega), wrap_i64 (by omega) (by omega), hnext]; omega
    · rw [if_neg (fun e => by rw [e] at hm; simp at hm)] at hsz
      rw [e3, wrap_i64 (by omega) (by omega), hnext]; omega
  · have hge := of_decide_eq_false hge
    have hk' : k = ys.length := by omega
    refine (awake14_spec w15 (ht.keep (hf5'.trans' hf) (by simp))).mono ?_
    rintro e w25 ⟨rfl, hf25⟩
    refine ⟨_, rfl, fun _ => ⟨?_, up ((hf5'.trans' hf).trans' hf25)⟩, fun h => (by cases h)⟩
    rw [hk', List.take_of_length_le (Nat.le_refl _), bs_mksize, beq_self_eq_true]
end Go.Proofs.YtmihbbgojkbaeaaDoor
