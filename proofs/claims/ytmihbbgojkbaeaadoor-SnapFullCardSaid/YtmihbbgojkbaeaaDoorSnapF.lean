/- The law's Few and awake, the reference's Same. Conditions: texts are no longer than memory; what sorting a nil slice does is named. -/
import Derived.Test.YtmihbbgojkbaeaaDoorSnapE
import Derived.Test.YtmihbbgojkbaeaaDoorLaw07
import Derived.Shelf.SlSortCmp.NoneTotal
set_option linter.unusedVariables false
namespace Go.Proofs.YtmihbbgojkbaeaaDoor
open Go Vc Go.Proofs

/-- Sorting a nil slice does nothing. -/
def NilSort : Prop := ∀ W, Calls Tryd.prog 61 #[.slice none 0 0, .func (.func F_snap_byPath) #[] #[]] W fun e w' => e = .returned (.tuple #[]) ∧ w' = W
theorem nilSort : NilSort := fun W => AnyF.slices_SortFunc_none sortLays none 0 _ W
theorem few07_spec {w : World} {a : Option Addr} {n c : Nat} {xs : List FileE} (hr : ReadsK encF 2 w a xs) (hn : xs.length = n) (hc : n ≤ c) (m : Nat) (hm : m ≤ 1000000) : Calls Tryd.prog F_cartularylaw07_Few #[.slice a n c, .int .i64 m] w fun e w' =>
    ∃ l, e = .returned (.slice l.a l.len l.cap) ∧ OwnK encF 2 w' w.heap.size T_api_File l (xs.take m) ∧ Fr (fun _ => False) w w' := by
  refine vc_cartularylaw07_Few_ok (R := fun v w' => ∃ l : Sl, v = .slice l.a l.len l.cap ∧ OwnK encF 2 w' w.heap.size T_api_File l (xs.take m) ∧ Fr (fun _ => False) w w') ?_ (fun v w' ⟨l, h⟩ => ⟨l, by rw [h.1], h.2⟩)
  have key : ∀ (src : Option Addr) (k c' : Nat), ReadsK encF 2 w src (xs.take m) → (xs.take m).length = k → ∀ w1, w1 = w.alloc (.cells #[] T_api_File) →
      ∃ (w2 : World) (l3 : Sl), (Builtin.append_ #[T_S_api_File, T_S_api_File] T_S_api_File #[.slice (some ⟨w.heap.size, 0, none⟩) 0 0, .slice src k c']).run Tryd.prog w1 = .ok (.slice l3.a l3.len l3.cap) w2 ∧ ∃ l : Sl, Value.slice l3.a l3.len l3.cap = .slice l.a l.len l.cap ∧ OwnK encF 2 w2 w.heap.size T_api_File l (xs.take m) ∧ Fr (fun _ => False) w w2 := fun src k c' hr hk w1 h1 => by
    have hml : (xs.take m).length ≤ 1000000 := by rw [List.length_take]; omega
    have hf1 : Fr (fun _ => False) w w1 := by rw [h1]; exact .alloc _ _ _
    have ho1 : OwnK encF 2 w1 w.heap.size T_api_File ⟨some ⟨w.heap.size, 0, none⟩, 0, 0⟩ [] := by rw [h1]; exact .empty w T_api_File
    obtain ⟨w2, l3, hr2, ho2, hf2⟩ := append_allK elF ho1 c' (hr.keep hf1 (by simp)) (by simp only [List.length_nil, maxLen]; omega) (by simp only [List.length_nil]; omega) hf1.size hk
    exact ⟨w2, l3, hr2, l3, rfl, ho2, hf1.trans hf2 fun q hq ⟨y, hy, e⟩ => by cases hy; simp only at e; omega⟩
  refine ⟨fun h => ⟨⟨by omega, by have := of_decide_eq_true h; omega⟩, fun w1 h1 => ?_⟩, fun h w4 h4 => ?_⟩
  · have h := of_decide_eq_true h
    rw [Int.toNat_natCast]
    have hs := hr.sub (cap := c) (by omega) 0
    rw [List.drop_zero] at hs
    exact key _ _ _ (hs.take m) (by rw [List.length_take]; omega) w1 h1
  · have h := of_decide_eq_false h
    rw [List.take_of_length_le (by omega)] at key ⊢
    exact key _ _ _ hr hn w4 h4
theorem same07_spec {w : World} {a b : Option Addr} {n m c d : Nat} {xs ys : List ByteArray} (hx : Reads w a (strV xs)) (hy : Reads w b (strV ys)) (hn : xs.length = n) (hm : ys.length = m) (hl : n ≤ 1000000) : Calls Tryd.prog F_cartularyref07_Same #[.slice a n c, .slice b m d] w fun e w' => (∃ r : Bool, e = .returned (.bool r) ∧ (r = true ↔ xs = ys)) ∧ Drew w w' := by
  refine vc_cartularyref07_Same_ok (R := fun v w' => (∃ r : Bool, v = .bool r ∧ (r = true ↔ xs = ys)) ∧ Drew w w') ?_ (fun v w' ⟨⟨r, h1, h2⟩, h3⟩ => ⟨⟨r, by rw [h1], h2⟩, h3⟩)
  refine ⟨fun h => ⟨⟨false, rfl, fun h => (by cases h), fun e => ?_⟩, .refl _⟩, fun h => ?_⟩
  · rw [← hn, ← hm, e] at h; simp at h
  have hnm : n = m := by
    have : ((n : Int) != (m : Int)) = false := h
    have : (n : Int) = m := by simpa using this
    omega
  refine ⟨fun i w' => ∃ k : Nat, i = k ∧ k ≤ n ∧ xs.take k = ys.take k ∧ Drew w w', fun i _ => n - i.toNat, ⟨0, rfl, Nat.zero_le _, rfl, .refl _⟩, ?_⟩
  rintro i w4 ⟨k, rfl, hk, heq, d4⟩
  have e1 : IntKind.i64.wrap ((k : Int) + 1) = ((k + 1 : Nat) : Int) := by rw [wrap_i64 (by omega) (by omega)]; omega
  rw [e1]
  refine ⟨fun hlt => ?_, fun hge => ⟨⟨true, rfl, fun _ => ?_, fun _ => rfl⟩, d4⟩⟩
  · have hlt := of_decide_eq_true hlt
    have h1 : xs[k]? = some xs[k] := List.getElem?_eq_getElem (by omega)
    have h2 : ys[k]? = some ys[k] := List.getElem?_eq_getElem (by omega)
    generalize xs[k] = x at h1
    generalize ys[k] = y at h2
    have fd : Fr (fun _ => False) w w4 := .drew _ d4
    obtain ⟨ad, had, hc⟩ := hx k (.string x) (by simp [strV, h1])
    obtain ⟨bd, hbd, hc'⟩ := hy k (.string y) (by simp [strV, h2])
    refine ⟨⟨by omega, by omega⟩, ad, had, x, by rw [Int.toNat_natCast, Nat.mul_one]; exact fd.cell hc (by simp), ⟨by omega, by omega⟩, bd, hbd, y, by rw [Int.toNat_natCast, Nat.mul_one]; exact fd.cell hc' (by simp), fun w9 d9 => ⟨fun h => ⟨⟨false, rfl, fun h => (by cases h), fun e => ?_⟩, d4.trans d9⟩, fun h => ⟨⟨k + 1, rfl, by omega, ?_, d4.trans d9⟩, by dsimp only; omega⟩⟩⟩
    · rw [e, h2] at h1
      cases h1
      rw [bs_eq] at h; simp at h
    · rw [bs_eq] at h
      have h : x = y := by simpa using h
      rw [List.take_add_one, List.take_add_one, heq, h1, h2, h]
  · have hge := of_decide_eq_false hge
    have hk' : k = n := by omega
    rw [hk', List.take_of_length_le (by omega), List.take_of_length_le (by omega)] at heq
    exact heq
def awX : FileE := ⟨⟨#[101]⟩, ⟨#[49]⟩⟩
def awY : FileE := ⟨⟨#[97, 47, 98]⟩, ⟨#[]⟩⟩
theorem aw_rising {ys : List FileE} (hp : ys.Perm [awX, awY]) (hr : Rising ys) : ys = [awY, awX] := by
  have hl := hp.length_eq
  match ys, hl with
  | [p, q], _ =>
    have h := (List.pairwise_cons.1 hr).1 q (by simp)
    have h1 : p ∈ [awX, awY] := hp.subset (by simp)
    have h2 : q ∈ [awX, awY] := hp.subset (by simp)
    have h3 : awY ∈ [p, q] := hp.symm.subset (by simp)
    have h4 : awX ∈ [p, q] := hp.symm.subset (by simp)
    have hne : awX ≠ awY := fun e => by have := congrArg (fun f => f.data.size) e; revert this; decide
    simp only [List.mem_cons, List.mem_nil_iff, or_false] at h1 h2 h3 h4
    rcases h1 with rfl | rfl
    · rcases h2 with rfl | rfl
      · rcases h3 with h3 | h3 <;> exact absurd h3.symm hne
      · exact absurd (show awY.path.data.toList < awX.path.data.toList by decide) h
    · rcases h2 with rfl | rfl
      · rfl
      · rcases h4 with h4 | h4 <;> exact absurd h4 hne
theorem aw_clean : (cleanB awX.path && cleanB awY.path) = true := by decide +kernel
theorem aw_under : ((underE [awY, awX] (awX.path ++ ⟨#[47]⟩)).length == 0 && (underE [awY, awX] (awY.path ++ ⟨#[47]⟩)).length == 0) = true := by decide +kernel
theorem aw_list : ((listE [awY, awX] ⟨#[]⟩).1.map (·.data.toList), (listE [awY, awX] ⟨#[]⟩).2) = ([[97, 47], [101]], 0) := by decide +kernel
theorem aw_get : ((getE [awY, awX] ⟨#[101]⟩).1.data.toList, (getE [awY, awX] ⟨#[101]⟩).2) = ([49], 0) := by decide +kernel
theorem aw_ok : NewOK [awY, awX] := by
  have hc := aw_clean
  have hu := aw_under
  rw [Bool.and_eq_true] at hc hu
  refine ⟨fun i x hx => ?_, fun x hx => ?_⟩
  · match i, hx with
    | 0, hx => cases hx; exact ⟨hc.2, fun y h => by omega⟩
    | 1, hx =>
      cases hx
      refine ⟨hc.1, fun y _ hy => ?_⟩
      cases hy
      intro e
      have := congrArg ByteArray.size e
      revert this; decide
  · simp only [List.mem_cons, List.mem_nil_iff, or_false] at hx
    rcases hx with rfl | rfl
    · exact List.length_eq_zero_iff.1 (by simpa using hu.2)
    · exact List.length_eq_zero_iff.1 (by simpa using hu.1)
theorem reads_blkF {w : World} {g : Nat} {cs : Array Value} {e : TypeId} {fz : Nat × Nat} (h : w.heap[g]? = some (.cells cs e fz)) {xs : List FileE} (hc : cs.toList = xs.flatMap encF) : ReadsK encF 2 w (some ⟨g, 0, none⟩) xs := fun i x hx => by
  refine ⟨_, rfl, fun j v hv => ?_⟩
  have := flat_get (enc := encF) (k := 2) (fun _ => rfl) xs i x j v hx hv
  rw [add_lit, add_lit, cell_blk h, Nat.zero_add, ← Array.getElem?_toList, hc]; exact this
theorem awake07_spec (w : World) : Calls Tryd.prog F_cartularylaw07_awake #[] w fun e w' => e = .returned (.bool true) ∧ Fr (fun _ => False) w w' := by
  refine vc_cartularylaw07_awake_ok (R := fun v w' => v = .bool true ∧ Fr (fun _ => False) w w') ?_ (fun v w' h => ⟨by rw [h.1], h.2⟩)
  intro w1 h1
  have hf1 : Fr (fun _ => False) w w1 := by rw [h1]; exact .alloc _ _ _
  have hr : ReadsK encF 2 w1 (some ⟨w.heap.size, 0, none⟩) [awX, awY] := reads_blkF (by rw [h1]; exact alloc_new _ _) rfl
  clear h1
  have hsz : ∀ x ∈ [awX, awY], x.path.size ≤ 140737488355328 := fun x hx => by
    simp only [List.mem_cons, List.mem_nil_iff, or_false] at hx
    rcases hx with rfl | rfl <;> decide
  refine (new_spec hr rfl (by decide) (by decide) hsz nilSort).mono ?_
  rintro e w3 ⟨v, rfl, hf3, hR⟩
  rcases hR with ⟨_, h⟩ | ⟨_, _, ys, hp, hris, h⟩
  · exfalso
    rcases h with h | h <;> revert h <;> decide
  have hy := aw_rising hp hris
  subst hy
  rcases h with ⟨hn, _⟩ | ⟨hok, b, l, rfl, hb, hS⟩
  · exact absurd aw_ok hn
  have hf3' := hf1.trans' hf3
  refine ⟨_, _, rfl, fun h => absurd h (by decide), fun _ => ⟨fun h => (by cases h), fun _ => (list_spec hS hris (fun x hx => hsz x (hp.subset hx)) ⟨#[]⟩ (by decide)).mono ?_⟩⟩
  have hli := aw_list
  have hge := aw_get
  rintro e w7 ⟨o, rfl, ho, hf7⟩
  obtain ⟨r, hr'⟩ : ∃ r, listE [awY, awX] ⟨#[]⟩ = r := ⟨_, rfl⟩
  rw [hr'] at ho hli ⊢
  refine ⟨o, _, rfl, (get_spec (hS.keep hf7) hris ⟨#[101]⟩).mono ?_⟩
  obtain ⟨q, hq⟩ : ∃ r, getE [awY, awX] ⟨#[101]⟩ = r := ⟨_, rfl⟩
  rw [hq] at hge ⊢
  rintro e w11 ⟨rfl, hf11⟩
  obtain ⟨hl1, hl2⟩ := Prod.mk.inj hli
  obtain ⟨hg1, hg2⟩ := Prod.mk.inj hge
  have hq1 : q.1 = ⟨#[49]⟩ := bs_ext (by rw [hg1])
  have hr1 : r.1 = [⟨#[97, 47]⟩, ⟨#[101]⟩] := by
    have hm : r.1 = (r.1.map (·.data.toList)).map fun l : List UInt8 => (⟨l.toArray⟩ : ByteArray) := by
      rw [List.map_map]
      have : ((fun l : List UInt8 => (⟨l.toArray⟩ : ByteArray)) ∘ fun x : ByteArray => x.data.toList) = id := funext fun x => bs_self x
      rw [this, List.map_id]
    rw [hm, hl1]; rfl
  refine ⟨_, _, rfl, fun _ => ⟨fun _ => ⟨fun _ w14 h14 => ?_, fun h => ?_⟩, fun h => ?_⟩, fun h => ?_⟩
  · have hf14 : Fr (fun _ => False) w11 w14 := by rw [h14]; exact .alloc _ _ _
    have hb14 : w14.heap[w11.heap.size]? = some (.cells #[.string ⟨#[97, 47]⟩, .string ⟨#[101]⟩] 9 (0, 0)) := by rw [h14]; exact alloc_new _ _
    have hlit : Reads w14 (some ⟨w11.heap.size, 0, none⟩) (strV [⟨#[97, 47]⟩, ⟨#[101]⟩]) := fun i v hv => ⟨_, rfl, by rw [add_lit, Nat.zero_add, cell_blk hb14]; simpa [strV] using hv⟩
    have hol : r.1.length = o.len := by rw [ho.len]; simp [strV]
    refine (same07_spec ((ho.keep hf11 (by simp)).keep hf14 (by simp)).reads hlit hol rfl (by rw [← hol, hr1]; decide)).mono ?_
    rintro e w16 ⟨⟨c, rfl, hc⟩, d16⟩
    have : c = true := hc.2 hr1
    subst this
    exact ⟨_, rfl, rfl, (((hf3'.trans' hf7).trans' hf11).trans' hf14).trans' (.drew _ d16)⟩
  · rw [bs_eq, hq1] at h; simp at h
  · rw [hg2] at h; simp at h
  · rw [hl2] at h; simp at h
end Go.Proofs.YtmihbbgojkbaeaaDoor
