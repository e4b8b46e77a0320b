/- Folders: sort, clone, search, New, Under, Get. Conditions: as named. -/
import Derived.Test.YtoagdpjickippaaDoorSeqX
import Derived.Test.YtoagdpjickippaaDoorSnap1
import Derived.Test.YtoagdpjickippaaDoorPreS
import Derived.Test.YtoagdpjickippaaDoorStrE
import Derived.Test.YtoagdpjickippaaDoorHexM
import Derived.Test.YtoagdpjickippaaDoorSortK
import Derived.Test.YtoagdpjickippaaDoorLaysS
import Derived.Test.YtoagdpjickippaaDoorCmpS
import Derived.Shelf.Small.Strs
import Derived.Test.YtoagdpjickippaaDoorSnap2
set_option linter.unusedVariables false
namespace Go.Proofs.YtoagdpjickippaaDoor
open Go Vc Go.Proofs Go.Sort Go.Lib

structure FileE where
  path : ByteArray
  data : ByteArray
instance : Inhabited FileE := ⟨⟨⟨#[]⟩, ⟨#[]⟩⟩⟩
def encF (f : FileE) : List Value := [.string f.path, .string f.data]
theorem elF : ElK encF 2 Tryd.prog T_S_api_File T_api_File (.agg #[.string ⟨#[]⟩, .string ⟨#[]⟩]) 32 :=
  ⟨by kernel_rfl, by kernel_rfl, rfl, by decide, by kernel_rfl, fun _ => rfl, fun x u hu => by
    simp only [encF, List.mem_cons, List.mem_nil_iff, or_false] at hu
    rcases hu with rfl | rfl <;> rfl⟩
def cmpF (x y : FileE) : Int := Lib.compareBytes x.path.data.toList y.path.data.toList
theorem byPath_spec (x y : FileE) (w : World) : Calls Tryd.prog F_snap_byPath #[.agg (encF x).toArray, .agg (encF y).toArray] w fun e w' => e = .returned (.int .i64 (cmpF x y)) ∧ ∃ q os', w' = grow (w.drewN q) os' := by
  refine vc_snap_byPath_ok (R := fun v w' => v = .int .i64 (cmpF x y) ∧ ∃ q os', w' = grow (w.drewN q) os') ?_ (fun v w' h => ⟨by rw [h.1], h.2⟩)
  intro w1 h1 w2 h2
  have hb1 : w1.heap[w.heap.size]? = some (.cells (encF x).toArray T_api_File (0, 0)) := by rw [h1]; exact alloc_new _ _
  have hb2 : w2.heap[w1.heap.size]? = some (.cells (encF y).toArray T_api_File (0, 0)) := by rw [h2]; exact alloc_new _ _
  have hb1' : w2.heap[w.heap.size]? = some (.cells (encF x).toArray T_api_File (0, 0)) := by rw [h2]; exact (Fr.alloc (fun _ => False) _ _).keep hb1 (by simp)
  refine ⟨x.path, by rw [cell_blk hb1']; rfl, y.path, by rw [cell_blk hb2]; rfl, (compare_spec _ _ w2).mono ?_⟩
  rintro e w6 ⟨rfl, rfl⟩
  refine ⟨_, rfl, rfl, 0, #[.cells (encF x).toArray T_api_File (0, 0), .cells (encF y).toArray T_api_File (0, 0)], ?_⟩
  rw [h2, h1, alloc_eq_grow, alloc_eq_grow, grow_grow]
  rfl
theorem ltF (x y : FileE) : ltOf cmpF x y = decide (x.path.data.toList < y.path.data.toList) := decide_eq_decide.2 (cmp_lt _ _)
theorem swoF : SWO (ltOf cmpF) where
  irrefl x := by rw [ltF, decide_eq_false_iff_not]; exact List.lt_irrefl _
  trans x y z h1 h2 := by
    rw [ltF, decide_eq_true_eq] at *
    exact List.lt_trans h1 h2
  ntrans x y z h1 h2 := by
    rw [ltF, decide_eq_false_iff_not] at *
    intro h
    rcases lt_tri x.path.data.toList y.path.data.toList with h3 | h3 | h3
    · exact h1 h3
    · rw [h3] at h; exact h2 h
    · exact h2 (List.lt_trans h3 h)
/-- 'slices.SortFunc' of files by their paths. -/
theorem sort_spec {w : World} {base : Nat} {e : TypeId} {l : Sl} {xs : List FileE} {g : Nat} (h : OwnK encF 2 w base e l xs) (ha : l.a = some ⟨g, 0, none⟩) (hsz : xs.length ≤ 1000000) :
    Calls Tryd.prog 18 #[.slice l.a l.len l.cap, .func (.func F_snap_byPath) #[] #[]] w fun r w' =>
      r = .returned (.tuple #[]) ∧ ∃ ys : List FileE, ys.Perm xs ∧ (ys.Pairwise fun x y => ¬ y.path.data.toList < x.path.data.toList) ∧ OwnK encF 2 w' base e l ys ∧ Fr (At l) w w' := by
  obtain ⟨cur, hg, _⟩ := own_row h ha
  have hc := AnyQ.slices_SortFunc sortLays 2 Tryd.isAgg31 Tryd.sizeOf31 encF (fun _ => rfl) (fun x v hv => by
    simp only [encF, List.mem_cons, List.mem_nil_iff, or_false] at hv
    rcases hv with rfl | rfl <;> rfl) cmpF swoF F_snap_byPath #[] g 0 l.cap xs.toArray w (enters_of (P := Tryd.prog) Tryd.func19 (by kernel_rfl) rfl)
    (fun m os dk _ x y => byPath_spec x y _) (own_holds (fun _ => rfl) (by decide) h ha) (lt_blk hg) (by rw [List.size_toArray]; omega)
  have hl : l.len = xs.length := h.1.symm
  rw [ha, hl]
  rw [List.size_toArray] at hc
  refine hc.mono ?_
  rintro r w' ⟨rfl, d', n, os, ⟨p1, _, p3⟩, p4, rfl⟩
  have p1 : d'.size = xs.length := by simpa using p1
  refine ⟨rfl, d'.toList, ?_, ?_, ?_, ?_⟩
  · have e1 : (d'.extract 0 xs.length).toList = d'.toList := by rw [← p1]; simp
    have e2 : (xs.toArray.extract 0 xs.length).toList = xs := by simp
    rw [e1, e2] at p3
    exact p3
  · rw [List.pairwise_iff_getElem]
    intro i j hi hj hij
    have := p4 i j (Nat.zero_le _) hij (by rw [Array.length_toList] at hj; omega)
    rw [Array.length_toList] at hi hj
    rw [getElem!_pos d' i hi, getElem!_pos d' j hj, ltF, decide_eq_false_iff_not] at this
    simpa using this
  · have := own_sorted (enc := encF) (k := 2) (fun _ => rfl) (by decide) h ha n d'.toList (by rw [Array.length_toList, p1]) os
    simpa using this
  · have := sort_fr (enc := encF) (k := 2) (w := w) (g := g) n d'.toList os
    exact (by simpa using this : Fr (· = g) w (sortWorldK encF 2 w g 0 n d' os)).mono fun q _ e => ⟨_, ha, e⟩
end Go.Proofs.YtoagdpjickippaaDoor
namespace Go.Proofs.YtoagdpjickippaaDoor
open Go Vc Go.Proofs

theorem grow_fr (w : World) (q : Nat) (os : Array Obj) : Fr (fun _ => False) w (Sort.grow (w.drewN q) os) :=
  ⟨rfl, rfl, rfl, by simp [Sort.grow, World.drewN], fun k hk _ => by
    have hk' : k < (w.drewN q).heap.size := hk
    exact Sort.heap_grow_old _ _ hk'⟩
theorem byPath_fr (x y : FileE) (w : World) : Calls Tryd.prog F_snap_byPath #[.agg (encF x).toArray, .agg (encF y).toArray] w fun e w' => e = .returned (.int .i64 (cmpF x y)) ∧ Fr (fun _ => False) w w' :=
  (byPath_spec x y w).mono fun e w' ⟨h, q, os, h2⟩ => ⟨h, by rw [h2]; exact grow_fr _ _ _⟩
/-- 'slices.Clone'. -/
theorem clone_spec {w : World} {a : Option Addr} {n c : Nat} {xs : List FileE} (hr : ReadsK encF 2 w a xs) (hn : xs.length = n) (hl : n ≤ 1000000) : Calls Tryd.prog F_slices_Clone #[.slice a n c] w fun e w' =>
    ∃ l, e = .returned (.slice l.a l.len l.cap) ∧ OwnK encF 2 w' w.heap.size T_api_File l xs ∧ Fr (fun _ => False) w w' := by
  refine vc_slices_Clone_ok (R := fun v w' => ∃ l : Sl, v = .slice l.a l.len l.cap ∧ OwnK encF 2 w' w.heap.size T_api_File l xs ∧ Fr (fun _ => False) w w') ?_ (fun v w' ⟨l, h⟩ => ⟨l, by rw [h.1], h.2⟩)
  refine ⟨fun ha => ?_, fun ha w1 h1 => ?_⟩
  · have ha : a = none := by simpa using ha
    have hx : xs = [] := by
      cases xs with
      | nil => rfl
      | cons x r =>
        obtain ⟨ad, h, _⟩ := hr 0 x rfl
        rw [ha] at h; cases h
    subst hx
    exact ⟨⟨none, 0, 0⟩, rfl, .nil _ _ _, .refl _ _⟩
  · have hf1 : Fr (fun _ => False) w w1 := by rw [h1]; exact .alloc _ _ _
    have ho1 : OwnK encF 2 w1 w.heap.size T_api_File ⟨some ⟨w.heap.size, 0, none⟩, 0, 0⟩ [] := by rw [h1]; exact .empty w T_api_File
    obtain ⟨w2, l3, hr2, ho2, hf2⟩ := append_allK elF ho1 c (hr.keep hf1 (by simp)) (by simp [maxLen]; omega) (by simp; omega) hf1.size hn
    exact ⟨w2, l3, hr2, l3, rfl, ho2, hf1.trans hf2 fun q hq ⟨y, hy, e⟩ => by cases hy; simp only at e; omega⟩
/-- Rising by their paths. -/
def Rising (xs : List FileE) : Prop := xs.Pairwise fun x y => ¬ y.path.data.toList < x.path.data.toList
theorem rising_lt {xs : List FileE} (h : Rising xs) {i j : Nat} {x y : FileE} (hx : xs[i]? = some x) (hy : xs[j]? = some y) (hij : i ≤ j) {p : List UInt8} (hp : y.path.data.toList < p) : x.path.data.toList < p := by
  by_cases he : i = j
  · subst he; rw [hx] at hy; cases hy; exact hp
  · have := (List.pairwise_iff_getElem.1 h) i j (List.getElem?_eq_some_iff.1 hx).1 (List.getElem?_eq_some_iff.1 hy).1 (by omega)
    rw [(List.getElem?_eq_some_iff.1 hx).2, (List.getElem?_eq_some_iff.1 hy).2] at this
    rcases lt_tri x.path.data.toList y.path.data.toList with h3 | h3 | h3
    · exact List.lt_trans h3 hp
    · rw [h3]; exact hp
    · exact absurd h3 this
/-- 'slices.BinarySearchFunc'. -/
theorem search_spec {w : World} {a : Option Addr} {n c : Nat} {xs : List FileE} (hr : ReadsK encF 2 w a xs) (hn : xs.length = n) (hl : n ≤ 1000000) (hs : Rising xs) (t : FileE) :
    Calls Tryd.prog F_slices_BinarySearchFunc #[.slice a n c, .agg #[.string t.path, .string t.data], .func (.func F_snap_byPath) #[] #[]] w fun e w' =>
      ∃ i : Nat, i ≤ n ∧ e = .returned (.tuple #[.int .i64 i, .bool (match xs[i]? with | some x => decide (x.path = t.path) | none => false)]) ∧ (∀ k x, xs[k]? = some x → (x.path.data.toList < t.path.data.toList ↔ k < i)) ∧ Fr (fun _ => False) w w' := by
  refine vc_slices_BinarySearchFunc_byPath_ok (R := fun v w' => ∃ i : Nat, i ≤ n ∧ v = .tuple #[.int .i64 i, .bool (match xs[i]? with | some x => decide (x.path = t.path) | none => false)] ∧ (∀ k x, xs[k]? = some x → (x.path.data.toList < t.path.data.toList ↔ k < i)) ∧ Fr (fun _ => False) w w') ?_ (fun v w' ⟨i, h0, h, h2⟩ => ⟨i, h0, by rw [h], h2⟩)
  intro w1 h1
  have hf1 : Fr (fun _ => False) w w1 := by rw [h1]; exact .alloc _ _ _
  have hb1 : w1.heap[w.heap.size]? = some (.cells (encF t).toArray T_api_File (0, 0)) := by rw [h1]; exact alloc_new _ _
  clear h1
  have lt : ∀ w', Fr (fun _ => False) w1 w' → (loadVar T_api_File ⟨w.heap.size, 0, none⟩).run Tryd.prog w' = .ok (.agg #[.string t.path, .string t.data]) w' := fun w' hf =>
    load_agg (vs := encF t) (agg_of (by kernel_rfl)) (by kernel_rfl) fun k v hv => by rw [add_lit, Nat.zero_add, cell_blk (hf.keep hb1 (by simp))]; simpa [encF] using hv
  refine ⟨fun i j w' => ∃ p q : Nat, i = p ∧ j = q ∧ p ≤ q ∧ q ≤ n ∧ (∀ k x, xs[k]? = some x → k < p → x.path.data.toList < t.path.data.toList) ∧ (∀ k x, xs[k]? = some x → q ≤ k → ¬ x.path.data.toList < t.path.data.toList) ∧ Fr (fun _ => False) w1 w', fun i j _ => j.toNat - i.toNat,
    ⟨0, n, rfl, rfl, Nat.zero_le _, Nat.le_refl _, fun k x _ h => by omega, fun k x hx h => by have := (List.getElem?_eq_some_iff.1 hx).1; omega, .refl _ _⟩, ?_⟩
  rintro i j w6 ⟨p, q, rfl, rfl, hpq, hqn, hlo, hhi, hf⟩
  refine ⟨fun hlt => ⟨by decide, fun w7 d7 => ⟨fun w' => Fr (fun _ => False) w1 w', hf.trans' (.drew _ d7), ?_⟩⟩, fun hge w19 d19 => ⟨fun w' => Fr (fun _ => False) w1 w', hf.trans' (.drew _ d19), ?_⟩⟩
  · have hlt := of_decide_eq_true hlt
    have hf7 : Fr (fun _ => False) w1 w7 := hf.trans' (.drew _ d7)
    have e1 : IntKind.i64.wrap (Int.fdiv (IntKind.u64.wrap (IntKind.i64.wrap ((p : Int) + (q : Int)))) (2 ^ min (Int.toNat 1) 64)) = (((p + q) / 2 : Nat) : Int) := by
      rw [wrap_i64 (x := (p : Int) + (q : Int)) (by omega) (by omega), wrap_u64 (by omega) (by omega), show (2 : Int) ^ min (Int.toNat 1) 64 = 2 by decide, Int.fdiv_eq_ediv_of_nonneg _ (by omega), wrap_i64 (by omega) (by omega)]
      omega
    have hm : (p + q) / 2 < xs.length := by omega
    obtain ⟨m, hme⟩ : ∃ m, (p + q) / 2 = m := ⟨_, rfl⟩
    have e2 : IntKind.i64.wrap ((m : Int) + 1) = ((m + 1 : Nat) : Int) := by rw [wrap_i64 (by omega) (by omega)]; omega
    rw [hme] at e1 hm
    rw [e1, e2]
    have hx : xs[m]? = some xs[m] := List.getElem?_eq_getElem hm
    generalize xs[m] = x at hx
    obtain ⟨ad, had, _⟩ := hr.load elF hx
    refine ⟨⟨by omega, by omega⟩, ad, had, x.path, x.data, fun w' hw' => ?_, t.path, t.data, fun w' hw' => lt w' hw', (byPath_fr x t w7).mono ?_⟩
    · obtain ⟨b, hb, hld⟩ := (hr.keep (hf1.trans' hw') (by simp)).load elF hx
      rw [had] at hb; cases hb
      rw [Int.toNat_natCast]; exact hld
    · rintro e w17 ⟨rfl, hf17⟩
      have hf17' := hf7.trans' hf17
      refine ⟨_, rfl, hf17', fun hc => ⟨⟨m + 1, q, rfl, rfl, by omega, hqn, fun k y hy hk => ?_, hhi, hf17'⟩, by dsimp only; omega⟩, fun hc => ⟨⟨p, m, rfl, rfl, by omega, by omega, hlo, fun k y hy hk hlt' => ?_, hf17'⟩, by dsimp only; omega⟩⟩
      · exact rising_lt hs hy hx (by omega) ((cmp_lt _ _).1 (of_decide_eq_true hc))
      · exact of_decide_eq_false hc ((cmp_lt _ _).2 (rising_lt hs hx hy hk hlt'))
  · have hge := of_decide_eq_false hge
    have hpq' : p = q := by omega
    subst hpq'
    have hf19 : Fr (fun _ => False) w1 w19 := hf.trans' (.drew _ d19)
    have hiff : ∀ k x, xs[k]? = some x → (x.path.data.toList < t.path.data.toList ↔ k < p) := fun k x hx => ⟨fun h => by
      by_cases hk : k < p
      · exact hk
      · exact absurd h (hhi k x hx (by omega)), hlo k x hx⟩
    refine ⟨fun hlt => ?_, fun hlt => ⟨hf19, p, hqn, ?_, hiff, hf1.trans' hf19⟩⟩
    · have hlt := of_decide_eq_true hlt
      have hm : p < xs.length := by omega
      have hx : xs[p]? = some xs[p] := List.getElem?_eq_getElem hm
      generalize xs[p] = x at hx
      obtain ⟨ad, had, _⟩ := hr.load elF hx
      refine ⟨⟨by omega, by omega⟩, ad, had, x.path, x.data, fun w' hw' => ?_, t.path, t.data, fun w' hw' => lt w' hw', (byPath_fr x t w19).mono ?_⟩
      · obtain ⟨b, hb, hld⟩ := (hr.keep (hf1.trans' hw') (by simp)).load elF hx
        rw [had] at hb; cases hb
        rw [Int.toNat_natCast]; exact hld
      · rintro e w29 ⟨rfl, hf29⟩
        have hf29' := hf19.trans' hf29
        refine ⟨_, rfl, hf29', p, hqn, ?_, hiff, hf1.trans' hf29'⟩
        rw [hx]
        have : (cmpF x t == 0) = decide (x.path = t.path) := by
          rw [Bool.eq_iff_iff, beq_iff_eq, decide_eq_true_eq]
          exact (cmp_zero _ _).trans ⟨fun h => bs_ext h, fun h => by rw [h]⟩
        rw [this]
    · have hlt := of_decide_eq_false hlt
      rw [List.getElem?_eq_none (by omega)]
end Go.Proofs.YtoagdpjickippaaDoor
namespace Go.Proofs.YtoagdpjickippaaDoor
open Go Vc Go.Proofs

def underE (xs : List FileE) (front : ByteArray) : List ByteArray := (xs.filter fun x => begB x.path front).map (·.path)
/-- A folder of files that stands still. -/
structure IsSnap (w : World) (b : Nat) (l : Sl) (xs : List FileE) (size : Int) : Prop where
  files : w.cell? ⟨b, 0, none⟩ = some (.slice l.a l.len l.cap)
  size : w.cell? ⟨b, 1, none⟩ = some (.int .i64 size)
  len : xs.length = l.len
  reads : ReadsK encF 2 w l.a xs
  small : xs.length ≤ 1000000
theorem IsSnap.keep {w w1 : World} {b : Nat} {l : Sl} {xs : List FileE} {size : Int} (h : IsSnap w b l xs size) (hf : Fr (fun _ => False) w w1) : IsSnap w1 b l xs size :=
  ⟨hf.cell h.files (by simp), hf.cell h.size (by simp), h.len, h.reads.keep hf (by simp), h.small⟩
theorem under_spec {w : World} {b : Nat} {l : Sl} {xs : List FileE} {size : Int} (h : IsSnap w b l xs size) (hs : Rising xs) (front : ByteArray) : Calls Tryd.prog F_snap_Snap_Under #[.pointer (some ⟨b, 0, none⟩), .string front] w fun e w' =>
    ∃ o, e = .returned (.slice o.a o.len o.cap) ∧ Vc.Own w' w.heap.size T_string o (strV (underE xs front)) ∧ Fr (fun _ => False) w w' := by
  refine vc_snap_Snap_Under_ok (R := fun v w' => ∃ o : Sl, v = .slice o.a o.len o.cap ∧ Vc.Own w' w.heap.size T_string o (strV (underE xs front)) ∧ Fr (fun _ => False) w w') ?_ (fun v w' ⟨o, h⟩ => ⟨o, by rw [h.1], h.2⟩)
  have hsm := h.small
  have hlen := h.len
  refine ⟨l, h.files, (search_spec h.reads h.len (by omega) hs ⟨front, ⟨#[]⟩⟩).mono ?_⟩
  rintro e w3 ⟨i, hin, rfl, hiff, hf3⟩
  refine ⟨_, _, rfl, fun o j w' => ∃ m : Nat, j = m ∧ i ≤ m ∧ m ≤ xs.length ∧ (∀ k x, xs[k]? = some x → i ≤ k → k < m → begB x.path front = true) ∧ Vc.Own w' w.heap.size T_string o (strV (((xs.take m).drop i).map (·.path))) ∧ Fr (fun _ => False) w w', fun _ j _ => xs.length - j.toNat,
    ⟨i, rfl, Nat.le_refl _, by omega, fun k x _ h1 h2 => by omega, by rw [List.drop_eq_nil_of_le (by rw [List.length_take]; omega)]; exact Vc.Own.nil _ _ _, hf3⟩, ?_⟩
  rintro o j w10 ⟨m, rfl, him, hm, hall, ho, hf⟩
  have hk := h.keep hf
  have e1 : IntKind.i64.wrap ((m : Int) + 1) = ((m + 1 : Nat) : Int) := by rw [wrap_i64 (by omega) (by omega)]; omega
  rw [e1]
  have hlow : ∀ k x, xs[k]? = some x → k < i → begB x.path front = false := fun k x hx hki => by
    have := (hiff k x hx).2 hki
    refine decide_eq_false fun hp => pre_le _ _ hp this
  have fin : (∀ k x, xs[k]? = some x → m ≤ k → begB x.path front = false) → Vc.Own w10 w.heap.size T_string o (strV (underE xs front)) := fun h3 => by
    unfold underE
    rw [filter_mid (fun x => begB x.path front) xs him hlow hall h3]
    exact ho
  refine ⟨l, hk.files, fun hlt => ⟨l, hk.files, ?_⟩, fun hge => ⟨o, rfl, fin fun k x hx hmk => ?_, hf⟩⟩
  · have hlt := of_decide_eq_true hlt
    have hml : m < xs.length := by omega
    have hx : xs[m]? = some xs[m] := List.getElem?_eq_getElem hml
    generalize xs[m] = x at hx
    obtain ⟨ad, had, hc⟩ := hk.reads m x hx
    have hc0 : w10.cell? (ad.add (m * 2)) = some (.string x.path) := by
      have := hc 0 (.string x.path) rfl
      rw [add_add] at this; simpa using this
    refine ⟨⟨by omega, by omega⟩, ad, had, x.path, by rw [Int.toNat_natCast]; exact hc0, (hasPrefix_spec x.path front w10).mono ?_⟩
    rintro e w16 ⟨rfl, hw⟩
    replace hw := hw.symm
    subst hw
    refine ⟨_, rfl, fun hb => ⟨l, hk.files, ⟨by omega, by omega⟩, ad, had, x.path, by rw [Int.toNat_natCast]; exact hc0, fun w21 h21 => ?_⟩, fun hb => ⟨o, rfl, fin fun k y hy hmk => ?_, hf⟩⟩
    · have hol : (((xs.take m).drop i).map (·.path)).length ≤ 1000000 := by rw [List.length_map, List.length_drop, List.length_take]; omega
      obtain ⟨w22, o23, hr22, ho22, hf22, _⟩ := append_one' elString ho (v := .string x.path) rfl (by simp only [strV, List.length_map, maxLen] at hol ⊢; omega) (by simp only [strV, List.length_map] at hol ⊢; omega) hf.size h21
      refine ⟨w22, o23, hr22, ⟨m + 1, rfl, by omega, by omega, fun k y hy h1 h2 => ?_, ?_, hf.trans hf22 fun q hq ⟨z, hz, e⟩ => by have := (ho.blk hz).1; omega⟩, by dsimp only; omega⟩
      · by_cases hkm : k = m
        · subst hkm; rw [hx] at hy; cases hy; exact hb
        · exact hall k y hy h1 (by omega)
      · have : (xs.take (m + 1)).drop i = (xs.take m).drop i ++ [x] := by
          rw [List.take_add_one, hx, Option.toList, List.drop_append_of_le_length (by rw [List.length_take]; omega)]
        rw [this]
        simpa [strV] using ho22
    · by_cases hkm : k = m
      · subst hkm; rw [hx] at hy; cases hy; exact hb
      · refine decide_eq_false fun hp => ?_
        have hge1 : ¬ x.path.data.toList < front.data.toList := fun hl => by have := (hiff m x hx).1 hl; omega
        have hge2 : ¬ y.path.data.toList < x.path.data.toList := by
          have := (List.pairwise_iff_getElem.1 hs) m k hml (List.getElem?_eq_some_iff.1 hy).1 (by omega)
          rw [(List.getElem?_eq_some_iff.1 hx).2, (List.getElem?_eq_some_iff.1 hy).2] at this
          exact this
        have := pre_between _ _ _ hge1 hge2 hp
        rw [begB, decide_eq_false_iff_not] at hb
        exact hb this
  · have hge := of_decide_eq_false hge
    have := (List.getElem?_eq_some_iff.1 hx).1
    omega
end Go.Proofs.YtoagdpjickippaaDoor
namespace Go.Proofs.YtoagdpjickippaaDoor
open Go Vc Go.Proofs

theorem boxF_run (w : World) (x : FileE) : (storeVar T_api_File ⟨w.heap.size, 0, none⟩ (.agg #[.string x.path, .string x.data])).run Tryd.prog (w.alloc (.cells #[.string ⟨#[]⟩, .string ⟨#[]⟩] T_api_File)) = .ok () (w.alloc (.cells (encF x).toArray T_api_File)) :=
  run_storeVar_new w T_api_File _ _ (by kernel_rfl) rfl (by simp [Value.oneCell'])
theorem boxF_cell (w : World) (x : FileE) {w' : World} {X : Nat → Prop} (hf : Fr X (w.alloc (.cells (encF x).toArray T_api_File)) w') (hx : ¬ X w.heap.size) {j : Nat} {v : Value} (hv : (encF x)[j]? = some v) : w'.cell? ⟨w.heap.size, j, none⟩ = some v :=
  hf.cell (by rw [cell_blk (alloc_new w _)]; simpa using hv) hx
def totalF (xs : List FileE) : Nat := (xs.map fun x => x.data.size).sum
theorem totalF_take {xs : List FileE} {k : Nat} {x : FileE} (h : xs[k]? = some x) : totalF (xs.take (k + 1)) = totalF (xs.take k) + x.data.size := by
  unfold totalF
  rw [List.take_add_one, h, List.map_append, List.sum_append]; simp
theorem totalF_le (xs : List FileE) (k : Nat) : totalF (xs.take k) ≤ totalF xs := by
  have : totalF xs = totalF (xs.take k) + totalF (xs.drop k) := by
    unfold totalF
    rw [← List.sum_append, ← List.map_append, List.take_append_drop]
  omega
def okF (ys : List FileE) (i : Nat) : Prop := ∀ x, ys[i]? = some x → cleanB x.path = true ∧ ∀ y, 0 < i → ys[i - 1]? = some y → y.path ≠ x.path
def NewOK (ys : List FileE) : Prop := (∀ i, okF ys i) ∧ ∀ x ∈ ys, underE ys (x.path ++ ⟨#[47]⟩) = []
/-- What New hands back. -/
def NewR (w : World) (xs : List FileE) (v : Value) (w' : World) : Prop := Fr (fun _ => False) w w' ∧
  ((v = .tuple #[.pointer none, .int .i64 2] ∧ (2000 < xs.length ∨ 4194304 < totalF xs)) ∨
   (xs.length ≤ 2000 ∧ totalF xs ≤ 4194304 ∧ ∃ ys : List FileE, ys.Perm xs ∧ Rising ys ∧
     ((¬ NewOK ys ∧ v = .tuple #[.pointer none, .int .i64 4]) ∨ (NewOK ys ∧ ∃ b l, v = .tuple #[.pointer (some ⟨b, 0, none⟩), .int .i64 0] ∧ (w.heap.size ≤ b ∧ ∀ x, l.a = some x → w.heap.size ≤ x.block) ∧ IsSnap w' b l ys (totalF xs)))))
theorem new_spec {w : World} {a : Option Addr} {n c : Nat} {xs : List FileE} (hr : ReadsK encF 2 w a xs) (hn : xs.length = n) (hl : n ≤ 1000000) (ht : totalF xs ≤ 4611686018427387904) (hp : ∀ x ∈ xs, x.path.size ≤ 140737488355328)
    (hnil : ∀ W, Calls Tryd.prog 18 #[.slice none 0 0, .func (.func F_snap_byPath) #[] #[]] W fun e w' => e = .returned (.tuple #[]) ∧ w' = W) :
    Calls Tryd.prog F_snap_New #[.slice a n c] w fun e w' => ∃ v, e = .returned v ∧ NewR w xs v w' := by
  refine vc_snap_New_ok (R := NewR w xs) ?_ (fun v w' h => ⟨v, rfl, h⟩)
  refine (clone_spec hr hn hl).mono ?_
  rintro e w2 ⟨l3, rfl, ho2, hf2⟩
  refine ⟨l3, rfl, fun w4 h4 => ?_⟩
  have hb4 : w4.heap[w2.heap.size]? = some (.cells #[.slice l3.a l3.len l3.cap, .int .i64 0] T_snap_Snap (0, 0)) := by rw [h4]; exact alloc_new _ _
  have hf4 : Fr (fun _ => False) w2 w4 := by rw [h4]; exact .alloc _ _ _
  clear h4
  have hsz := hf2.size
  have hf4' := hf2.trans' hf4
  have hsb : ∀ {q : Nat}, q < w.heap.size → q ≠ w2.heap.size := fun h => by omega
  refine ⟨fun i w' => ∃ k : Nat, i = k ∧ k ≤ n ∧ w'.cell? ⟨w2.heap.size, 0, none⟩ = some (.slice l3.a l3.len l3.cap) ∧ w'.cell? ⟨w2.heap.size, 1, none⟩ = some (.int .i64 (totalF (xs.take k) : Nat)) ∧ w'.frozen? ⟨w2.heap.size, 1, none⟩ = false ∧ Fr (· = w2.heap.size) w4 w',
    fun i _ => n - i.toNat, ⟨0, rfl, Nat.zero_le _, by rw [cell_blk hb4]; rfl, by rw [cell_blk hb4]; rfl, frozen_blk hb4 1, .refl _ _⟩, ?_⟩
  rintro i w8 ⟨k, rfl, hk, c0, c1, cz, hf8⟩
  have e1 : IntKind.i64.wrap ((k : Int) + 1) = ((k + 1 : Nat) : Int) := by rw [wrap_i64 (by omega) (by omega)]; omega
  rw [e1]
  have hf8' : Fr (fun _ => False) w w8 := hf4'.trans hf8 fun q hq e => hsb hq e
  refine ⟨fun hlt => ?_, fun hge => ?_⟩
  · have hlt := of_decide_eq_true hlt
    have hkl : k < xs.length := by omega
    have hx : xs[k]? = some xs[k] := List.getElem?_eq_getElem hkl
    generalize xs[k] = x at hx
    obtain ⟨ad, had, hload⟩ := (hr.keep hf8' (by simp)).load elF hx
    refine ⟨⟨by omega, by omega⟩, ad, had, x.path, x.data, by rw [Int.toNat_natCast]; exact hload, fun w12 h12 => ?_⟩
    subst h12
    refine ⟨_, boxF_run w8 x, fun w14 d14 => ?_⟩
    have hfa : Fr (fun _ => False) w8 w14 := (Fr.alloc (fun _ => False) w8 (.cells (encF x).toArray T_api_File)).trans' (.drew _ d14)
    have hbx : w14.cell? ⟨w8.heap.size, 1, none⟩ = some (.string x.data) := boxF_cell w8 x (.drew (fun _ => False) d14) (by simp) rfl
    have hlt2 := World.block_lt_of_cell? _ _ c0
    simp only at hlt2
    have cz14 : w14.frozen? ⟨w2.heap.size, 1, none⟩ = false := (World.frozen?_of_block (hfa.blk _ hlt2 (by simp))).trans cz
    have c114 := hfa.cell c1 (by simp)
    have htot := totalF_take hx
    have hle := totalF_le xs (k + 1)
    refine ⟨_, c114, x.data, hbx, ⟨⟨_, c114⟩, cz14⟩, fun w17 h17 => ⟨⟨k + 1, rfl, by omega, ?_, ?_, ?_, ?_⟩, by dsimp only; omega⟩⟩
    · rw [h17, World.cell?_setCell_other _ _ _ _ (by simp)]; exact hfa.cell c0 (by simp)
    · rw [h17, World.cell?_setCell_same' _ _ _ (by rw [c114]; rfl), htot, wrap_i64 (by omega) (by omega)]; simp
    · rw [h17, World.frozen?_setCell]; exact cz14
    · rw [h17]
      exact (hf8.trans hfa fun q hq h => h.elim).trans' (.set _ _ _ rfl)
  have hge := of_decide_eq_false hge
  have hk' : k = n := by omega
  rw [hk', ← hn, List.take_of_length_le (Nat.le_refl _)] at c1
  refine ⟨fun hb => ⟨hf8', .inl ⟨rfl, .inl (by have := of_decide_eq_true hb; omega)⟩⟩, fun hb => ⟨_, c1, fun hb2 => ⟨hf8', .inl ⟨rfl, .inr (by have := of_decide_eq_true hb2; omega)⟩⟩, fun hb2 => ⟨l3, c0, ?_⟩⟩⟩
  have hb := of_decide_eq_false hb
  have hb2 := of_decide_eq_false hb2
  have ho8 : OwnK encF 2 w8 w.heap.size T_api_File l3 xs := (ho2.keep hf4 (by simp)).keep hf8 fun y hy e => by have := (ho2.blk hy).2; omega
  have hsort : Calls Tryd.prog 18 #[.slice l3.a l3.len l3.cap, .func (.func F_snap_byPath) #[] #[]] w8 fun r w' => r = .returned (.tuple #[]) ∧ ∃ ys : List FileE, ys.Perm xs ∧ Rising ys ∧ OwnK encF 2 w' w.heap.size T_api_File l3 ys ∧ Fr (At l3) w8 w' := by
    rcases ho8.2.2 with ⟨hv, hz⟩ | ⟨g, cap, cur, hv, _⟩
    · simp only [Value.slice.injEq] at hv
      have hx0 : xs = [] := List.length_eq_zero_iff.1 (by have := ho8.1; omega)
      have ho8' := ho8
      rw [hv.1, hv.2.1, hv.2.2]
      refine (hnil w8).mono ?_
      rintro e w' ⟨rfl, rfl⟩
      exact ⟨rfl, xs, .refl _, by rw [hx0]; exact .nil, ho8', .refl _ _⟩
    · simp only [Value.slice.injEq] at hv
      exact sort_spec ho8 hv.1 (by omega)
  refine hsort.mono ?_
  rintro e w21 ⟨rfl, ys, hperm, hris, ho21, hf21⟩
  have hlen : ys.length = l3.len := ho21.1
  have hyl : ys.length = xs.length := hperm.length_eq
  have hne : ¬ At l3 w2.heap.size := fun ⟨y, hy, e⟩ => by have := (ho2.blk hy).2; omega
  have hat : ∀ {q : Nat}, q < w.heap.size → ¬ At l3 q := fun hq ⟨y, hy, e⟩ => by have := (ho2.blk hy).1; omega
  have hf21' : Fr (fun _ => False) w w21 := hf8'.trans hf21 fun q hq h => hat hq h
  have hS : IsSnap w21 w2.heap.size l3 ys (totalF xs) := ⟨hf21.cell c0 hne, hf21.cell c1 hne, hlen, ho21.reads fun _ => rfl, by omega⟩
  have bad : ∀ {w' : World}, Fr (fun _ => False) w21 w' → ¬ NewOK ys → NewR w xs (.tuple #[.pointer none, .int .i64 4]) w' := fun hf h => ⟨hf21'.trans' hf, .inr ⟨by omega, by omega, ys, hperm, hris, .inl ⟨h, rfl⟩⟩⟩
  refine ⟨rfl, l3, hS.files, fun i w' => ∃ k : Nat, i = k ∧ k ≤ ys.length ∧ (∀ j, j < k → okF ys j) ∧ Fr (fun _ => False) w21 w', fun i _ => ys.length - i.toNat, ⟨0, rfl, Nat.zero_le _, fun j hj => by omega, .refl _ _⟩, ?_⟩
  rintro i w26 ⟨k, rfl, hk, hall, hf26⟩
  have e1 : IntKind.i64.wrap ((k : Int) + 1) = ((k + 1 : Nat) : Int) := by rw [wrap_i64 (by omega) (by omega)]; omega
  rw [e1]
  refine ⟨fun hlt => ?_, fun hge => ?_⟩
  · have hlt := of_decide_eq_true hlt
    have hkl : k < ys.length := by omega
    have hx : ys[k]? = some ys[k] := List.getElem?_eq_getElem hkl
    generalize ys[k] = x at hx
    have hxs : x.path.size ≤ 140737488355328 := hp x (hperm.subset (List.mem_of_getElem? hx))
    obtain ⟨ad, had, hload⟩ := (hS.keep hf26).reads.load elF hx
    refine ⟨⟨by omega, by omega⟩, ad, had, x.path, x.data, by rw [Int.toNat_natCast]; exact hload, fun w30 h30 => ?_⟩
    subst h30
    refine ⟨_, boxF_run w26 x, fun w32 d32 => ?_⟩
    have hfa : Fr (fun _ => False) w26 w32 := (Fr.alloc (fun _ => False) w26 (.cells (encF x).toArray T_api_File)).trans' (.drew _ d32)
    have hbx : w32.cell? ⟨w26.heap.size, 0, none⟩ = some (.string x.path) := boxF_cell w26 x (.drew (fun _ => False) d32) (by simp) rfl
    have hf32 := hf26.trans' hfa
    refine ⟨fun w' => Fr (fun _ => False) w32 w', .refl _ _, x.path, fun w' hw' => hw'.cell hbx (by simp), (clean_spec x.path hxs w32).mono ?_⟩
    rintro e w37 ⟨rfl, hf37⟩
    have hf37' := hf32.trans' hf37
    refine ⟨_, rfl, hf37, fun hb => bad hf37' fun h => ?_, fun hb => ⟨fun h0 => ?_, fun h0 => ?_⟩⟩
    · have := (h.1 k x hx).1
      rw [this] at hb; cases hb
    · have hb : cleanB x.path = true := by simpa using hb
      have h0 := of_decide_eq_true h0
      have e2 : IntKind.i64.wrap ((k : Int) - 1) = ((k - 1 : Nat) : Int) := by rw [wrap_i64 (by omega) (by omega)]; omega
      rw [e2]
      have hy : ys[k - 1]? = some ys[k - 1] := List.getElem?_eq_getElem (by omega)
      generalize ys[k - 1] = y at hy
      obtain ⟨ad', had', _⟩ := hS.reads.load elF hy
      refine ⟨l3, fun w' hw' => (hS.keep (hf32.trans' hw')).files, ⟨by omega, by omega⟩, ad', had', y.path, fun w' hw' => ?_, x.path, fun w' hw' => hw'.cell hbx (by simp), fun he => bad hf37' fun h => ?_, fun he => ⟨⟨k + 1, rfl, by omega, fun j hj => ?_, hf37'⟩, by dsimp only; omega⟩⟩
      · obtain ⟨b, hb', hc⟩ := (hS.keep (hf32.trans' hw')).reads (k - 1) y hy
        rw [had'] at hb'; cases hb'
        have := hc 0 (.string y.path) rfl
        rw [add_add] at this
        rw [Int.toNat_natCast]; simpa using this
      · rw [bs_eq] at he
        exact (h.1 k x hx).2 y (by omega) hy (of_decide_eq_true he)
      · rw [bs_eq] at he
        by_cases hjk : j = k
        · subst hjk
          intro z hz
          rw [hx] at hz; cases hz
          refine ⟨hb, fun y' _ hy' => ?_⟩
          rw [hy] at hy'; cases hy'
          exact of_decide_eq_false he
        · exact hall j (by omega)
    · have hb : cleanB x.path = true := by simpa using hb
      have h0 := of_decide_eq_false h0
      refine ⟨⟨k + 1, rfl, by omega, fun j hj => ?_, hf37'⟩, by dsimp only; omega⟩
      by_cases hjk : j = k
      · subst hjk
        intro z hz
        rw [hx] at hz; cases hz
        exact ⟨hb, fun y' h1 _ => by omega⟩
      · exact hall j (by omega)
  have hge := of_decide_eq_false hge
  have hokA : ∀ j, okF ys j := fun j => by
    by_cases hj : j < k
    · exact hall j hj
    · intro x hx
      have := (List.getElem?_eq_some_iff.1 hx).1
      omega
  clear hall e1
  refine ⟨l3, (hS.keep hf26).files, fun i w' => ∃ k : Nat, i = k ∧ k ≤ ys.length ∧ (∀ x ∈ ys.take k, underE ys (x.path ++ ⟨#[47]⟩) = []) ∧ Fr (fun _ => False) w21 w', fun i _ => ys.length - i.toNat, ⟨0, rfl, Nat.zero_le _, fun x hx => by simp at hx, hf26⟩, ?_⟩
  rintro i w50 ⟨k, rfl, hk, hall, hf50⟩
  have e1 : IntKind.i64.wrap ((k : Int) + 1) = ((k + 1 : Nat) : Int) := by rw [wrap_i64 (by omega) (by omega)]; omega
  rw [e1]
  refine ⟨fun hlt => ?_, fun hge => ?_⟩
  · have hlt := of_decide_eq_true hlt
    have hkl : k < ys.length := by omega
    have hx : ys[k]? = some ys[k] := List.getElem?_eq_getElem hkl
    generalize ys[k] = x at hx
    have hxs : x.path.size ≤ 140737488355328 := hp x (hperm.subset (List.mem_of_getElem? hx))
    obtain ⟨ad, had, hload⟩ := (hS.keep hf50).reads.load elF hx
    refine ⟨⟨by omega, by omega⟩, ad, had, x.path, x.data, by rw [Int.toNat_natCast]; exact hload, fun w54 h54 => ?_⟩
    subst h54
    have hfa : Fr (fun _ => False) w50 (w50.alloc (.cells (encF x).toArray T_api_File)) := .alloc _ _ _
    refine ⟨_, boxF_run w50 x, x.path, boxF_cell w50 x (.refl (fun _ => False) _) (by simp) rfl, by rw [show (ByteArray.mk #[47]).size = 1 from rfl]; omega, (under_spec (hS.keep (hf50.trans' hfa)) hris _).mono ?_⟩
    rintro e w58 ⟨o, rfl, ho, hf58⟩
    have hf58' := (hf50.trans' hfa).trans' hf58
    have hol : o.len = (underE ys (x.path ++ ⟨#[47]⟩)).length := by rw [ho.len]; simp [strV]
    refine ⟨o, rfl, fun h0 => bad hf58' fun h => ?_, fun h0 => ⟨⟨k + 1, rfl, by omega, fun y hy => ?_, hf58'⟩, by dsimp only; omega⟩⟩
    · have h0 := of_decide_eq_true h0
      rw [h.2 x (List.mem_of_getElem? hx)] at hol
      simp at hol; omega
    · have h0 := of_decide_eq_false h0
      rw [List.take_add_one, hx] at hy
      rcases List.mem_append.1 hy with hy | hy
      · exact hall y hy
      · simp only [Option.toList, List.mem_cons, List.mem_nil_iff, or_false] at hy
        subst hy
        exact List.length_eq_zero_iff.1 (by omega)
  · have hge := of_decide_eq_false hge
    have hk' : k = ys.length := by omega
    rw [hk', List.take_of_length_le (Nat.le_refl _)] at hall
    exact ⟨hf21'.trans' hf50, .inr ⟨by omega, by omega, ys, hperm, hris, .inr ⟨⟨hokA, hall⟩, _, l3, rfl, ⟨hsz, fun x hx => (ho2.blk hx).1⟩, hS.keep hf50⟩⟩⟩
end Go.Proofs.YtoagdpjickippaaDoor
namespace Go.Proofs.YtoagdpjickippaaDoor
open Go Vc Go.Proofs

theorem cut_sz (s : ByteArray) (c : UInt8) : (cutS s c).1.size + (cutS s c).2.1.size ≤ s.size ∧ ((cutS s c).2.2 = true → (cutS s c).1.size + (cutS s c).2.1.size + 1 = s.size) := by
  unfold cutS
  rcases fnd_cases s c with ⟨h, _⟩ | ⟨i, h, hi, _⟩
  · rw [h, if_pos rfl]
    refine ⟨?_, fun h => by cases h⟩
    show s.size + 0 ≤ s.size
    omega
  · rw [h, if_neg (by omega), Int.toNat_natCast]
    simp only [ByteArray.size_extract]
    exact ⟨by omega, fun _ => by omega⟩
def getE (xs : List FileE) (p : ByteArray) : ByteArray × Int := match xs.find? (fun x => decide (x.path = p)) with
  | some x => (x.data, 0)
  | none => (⟨#[]⟩, 7)
theorem get_spec {w : World} {b : Nat} {l : Sl} {xs : List FileE} {size : Int} (h : IsSnap w b l xs size) (hs : Rising xs) (p : ByteArray) : Calls Tryd.prog F_snap_Snap_Get #[.pointer (some ⟨b, 0, none⟩), .string p] w fun e w' =>
    e = .returned (.tuple #[.string (getE xs p).1, .int .i64 (getE xs p).2]) ∧ Fr (fun _ => False) w w' := by
  refine vc_snap_Snap_Get_ok (R := fun v w' => v = .tuple #[.string (getE xs p).1, .int .i64 (getE xs p).2] ∧ Fr (fun _ => False) w w') ?_ (fun v w' h => ⟨by rw [h.1], h.2⟩)
  have hsm := h.small
  have hlen := h.len
  refine ⟨l, h.files, (search_spec h.reads h.len (by omega) hs ⟨p, ⟨#[]⟩⟩).mono ?_⟩
  rintro e w3 ⟨i, hin, rfl, hiff, hf3⟩
  refine ⟨_, _, rfl, fun hb => ?_, fun hb => ⟨l, (h.keep hf3).files, ?_⟩⟩
  · have hno : xs.find? (fun x => decide (x.path = p)) = none := by
      rw [List.find?_eq_none]
      intro x hx
      rw [decide_eq_true_eq]
      intro he
      obtain ⟨k, hk⟩ := List.mem_iff_getElem?.1 hx
      have hnl : ¬ k < i := fun h => by
        have := (hiff k x hk).2 h
        rw [he] at this; exact List.lt_irrefl _ this
      have hil : i < xs.length := by have := (List.getElem?_eq_some_iff.1 hk).1; omega
      have hy : xs[i]? = some xs[i] := List.getElem?_eq_getElem hil
      generalize xs[i] = y at hy
      rw [hy] at hb
      have hyp : y.path ≠ p := by simpa using hb
      have h1 : ¬ y.path.data.toList < p.data.toList := fun h => by have := (hiff i y hy).1 h; omega
      by_cases hki : k = i
      · subst hki; rw [hy] at hk; cases hk; exact hyp he
      · have h2 := (List.pairwise_iff_getElem.1 hs) i k hil (List.getElem?_eq_some_iff.1 hk).1 (by omega)
        rw [(List.getElem?_eq_some_iff.1 hk).2, (List.getElem?_eq_some_iff.1 hy).2, he] at h2
        rcases lt_tri y.path.data.toList p.data.toList with h3 | h3 | h3
        · exact h1 h3
        · exact hyp (bs_ext h3)
        · exact h2 h3
    unfold getE
    rw [hno]
    exact ⟨rfl, hf3⟩
  · cases hxi : xs[i]? with
    | none => rw [hxi] at hb; simp at hb
    | some x =>
      rw [hxi] at hb
      have hxp : x.path = p := by simpa using hb
      have hil := (List.getElem?_eq_some_iff.1 hxi).1
      obtain ⟨ad, had, hc⟩ := (h.keep hf3).reads i x hxi
      have hc1 : w3.cell? ((ad.add (i * 2)).add 1) = some (.string x.data) := hc 1 (.string x.data) rfl
      refine ⟨⟨by omega, by omega⟩, ad, had, x.data, by rw [Int.toNat_natCast]; exact hc1, ?_, hf3⟩
      have hfd : ∃ y, xs.find? (fun x => decide (x.path = p)) = some y ∧ y.path = p ∧ ∃ k, xs[k]? = some y ∧ k ≤ i := by
        cases hff : xs.find? (fun x => decide (x.path = p)) with
        | none => exact absurd (List.find?_eq_none.1 hff x (List.mem_of_getElem? hxi)) (by simp [hxp])
        | some y =>
          obtain ⟨h1, k, hk, h2, h3⟩ := List.find?_eq_some_iff_getElem.1 hff
          refine ⟨y, rfl, of_decide_eq_true h1, k, by rw [List.getElem?_eq_getElem hk, h2], ?_⟩
          by_cases hki : k ≤ i
          · exact hki
          · have := h3 i (by omega)
            rw [(List.getElem?_eq_some_iff.1 hxi).2] at this
            simp [hxp] at this
      obtain ⟨y, hy1, hy2, k, hk, hki⟩ := hfd
      have hke : k = i := by
        by_cases hlt : k < i
        · have := (hiff k y hk).2 hlt
          rw [hy2] at this; exact absurd this (List.lt_irrefl _)
        · omega
      subst hke
      rw [hxi] at hk; cases hk
      unfold getE
      rw [hy1]
end Go.Proofs.YtoagdpjickippaaDoor
