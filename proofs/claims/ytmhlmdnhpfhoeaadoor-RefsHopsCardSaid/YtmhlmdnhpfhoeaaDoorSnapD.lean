/- snap.New. Conditions: texts are no longer than memory; what sorting a nil slice does is named. -/
import Derived.Test.YtmhlmdnhpfhoeaaDoorSnapC
set_option linter.unusedVariables false
namespace Go.Proofs.YtmhlmdnhpfhoeaaDoor
open Go Vc Go.Proofs

theorem boxF_run (w : World) (x : FileE) : (storeVar T_api_File ⟨w.heap.size, 0, none⟩ (.agg #[.string x.path, .string x.data])).run Tryd.prog (w.alloc (.cells #[.string ⟨#[]⟩, .string ⟨#[]⟩] T_api_File)) = .ok () (w.alloc (.cells (encF x).toArray T_api_File)) :=
  run_storeVar_new w T_api_File _ _ (by kernel_rfl) rfl (by simp [Value.oneCell'])
theorem boxF_cell (w : World) (x : FileE) {w' : World} {X : Nat → Prop} (hf : Fr X (w.alloc (.cells (encF x).toArray T_api_File)) w') (hx : ¬ X w.heap.size) {j : Nat} {v : Value} (hv : (encF x)[j]? = some v) : w'.cell? ⟨w.heap.size, j, none⟩ = some v :=
  hf.cell (by rw [cell_blk (alloc_new w _)]; simpa using hv) hx
def totalF (xs : List FileE) : Nat := (xs.map fun x => x.data.size).sum
theorem totalF_take {xs : List FileE} {k : Nat} {x : FileE} (h : xs[k]? = some x) : totalF (xs.take (k + 1)) = totalF (xs.take k) + x.data.size := by
  unfold totalF
  rw [List.take_add_one, h, List.map_append, List.sum_append]; simp
theorem totalF_le (xs : List FileE) (k : Nat) : totalF (xs.take k) ≤ totalF xs := by
  have : totalF xs = totalF (xs.take k) + totalF (xs.drop k) := by
    unfold totalF
    rw [← List.sum_append, ← List.map_append, List.take_append_drop]
  omega
def okF (ys : List FileE) (i : Nat) : Prop := ∀ x, ys[i]? = some x → cleanB x.path = true ∧ ∀ y, 0 < i → ys[i - 1]? = some y → y.path ≠ x.path
def NewOK (ys : List FileE) : Prop := (∀ i, okF ys i) ∧ ∀ x ∈ ys, underE ys (x.path ++ ⟨#[47]⟩) = []
/-- What New hands back. -/
def NewR (w : World) (xs : List FileE) (v : Value) (w' : World) : Prop := Fr (fun _ => False) w w' ∧
  ((v = .tuple #[.pointer none, .int .i64 2] ∧ (2000 < xs.length ∨ 4194304 < totalF xs)) ∨
   (xs.length ≤ 2000 ∧ totalF xs ≤ 4194304 ∧ ∃ ys : List FileE, ys.Perm xs ∧ Rising ys ∧
     ((¬ NewOK ys ∧ v = .tuple #[.pointer none, .int .i64 4]) ∨ (NewOK ys ∧ ∃ b l, v = .tuple #[.pointer (some ⟨b, 0, none⟩), .int .i64 0] ∧ (w.heap.size ≤ b ∧ ∀ x, l.a = some x → w.heap.size ≤ x.block) ∧ IsSnap w' b l ys (totalF xs)))))
theorem new_spec {w : World} {a : Option Addr} {n c : Nat} {xs : List FileE} (hr : ReadsK encF 2 w a xs) (hn : xs.length = n) (hl : n ≤ 1000000) (ht : totalF xs ≤ 4611686018427387904) (hp : ∀ x ∈ xs, x.path.size ≤ 140737488355328)
    (hnil : ∀ W, Calls Tryd.prog 39 #[.slice none 0 0, .func (.func F_snap_byPath) #[] #[]] W fun e w' => e = .returned (.tuple #[]) ∧ w' = W) :
    Calls Tryd.prog F_snap_New #[.slice a n c] w fun e w' => ∃ v, e = .returned v ∧ NewR w xs v w' := by
  refine vc_snap_New_ok (R := NewR w xs) ?_ (fun v w' h => ⟨v, rfl, h⟩)
  refine (clone_spec hr hn hl).mono ?_
  rintro e w2 ⟨l3, rfl, ho2, hf2⟩
  refine ⟨l3, rfl, fun w4 h4 => ?_⟩
  have hb4 : w4.heap[w2.heap.size]? = some (.cells #[.slice l3.a l3.len l3.cap, .int .i64 0] T_snap_Snap (0, 0)) := by rw [h4]; exact alloc_new _ _
  have hf4 : Fr (fun _ => False) w2 w4 := by rw [h4]; exact .alloc _ _ _
  clear h4
  have hsz := hf2.size
  have hf4' := hf2.trans' hf4
  have hsb : ∀ {q : Nat}, q < w.heap.size → q ≠ w2.heap.size := fun h => by omega
  refine ⟨fun i w' => ∃ k : Nat, i = k ∧ k ≤ n ∧ w'.cell? ⟨w2.heap.size, 0, none⟩ = some (.slice l3.a l3.len l3.cap) ∧ w'.cell? ⟨w2.heap.size, 1, none⟩ = some (.int .i64 (totalF (xs.take k) : Nat)) ∧ w'.frozen? ⟨w2.heap.size, 1, none⟩ = false ∧ Fr (· = w2.heap.size) w4 w',
    fun i _ => n - i.toNat, ⟨0, rfl, Nat.zero_le _, by rw [cell_blk hb4]; rfl, by rw [cell_blk hb4]; rfl, frozen_blk hb4 1, .refl _ _⟩, ?_⟩
  rintro i w8 ⟨k, rfl, hk, c0, c1, cz, hf8⟩
  have e1 : IntKind.i64.wrap ((k : Int) + 1) = ((k + 1 : Nat) : Int) := by rw [wrap_i64 (by omega) (by omega)]; omega
  rw [e1]
  have hf8' : Fr (fun _ => False) w w8 := hf4'.trans hf8 fun q hq e => hsb hq e
  refine ⟨fun hlt => ?_, fun hge => ?_⟩
  · have hlt := of_decide_eq_true hlt
    have hkl : k < xs.length := by omega
    have hx : xs[k]? = some xs[k] := List.getElem?_eq_getElem hkl
    generalize xs[k] = x at hx
    obtain ⟨ad, had, hload⟩ := (hr.keep hf8' (by simp)).load elF hx
    refine ⟨⟨by omega, by omega⟩, ad, had, x.path, x.data, by rw [Int.toNat_natCast]; exact hload, fun w12 h12 => ?_⟩
    subst h12
    refine ⟨_, boxF_run w8 x, fun w14 d14 => ?_⟩
    have hfa : Fr (fun _ => False) w8 w14 := (Fr.alloc (fun _ => False) w8 (.cells (encF x).toArray T_api_File)).trans' (.drew _ d14)
    have hbx : w14.cell? ⟨w8.heap.size, 1, none⟩ = some (.string x.data) := boxF_cell w8 x (.drew (fun _ => False) d14) (by simp) rfl
    have hlt2 := World.block_lt_of_cell? _ _ c0
    simp only at hlt2
    have cz14 : w14.frozen? ⟨w2.heap.size, 1, none⟩ = false := (World.frozen?_of_block (hfa.blk _ hlt2 (by simp))).trans cz
    have c114 := hfa.cell c1 (by simp)
    have htot := totalF_take hx
    have hle := totalF_le xs (k + 1)
    refine ⟨_, c114, x.data, hbx, ⟨⟨_, c114⟩, cz14⟩, fun w17 h17 => ⟨⟨k + 1, rfl, by omega, ?_, ?_, ?_, ?_⟩, by dsimp only; omega⟩⟩
    · rw [h17, World.cell?_setCell_other _ _ _ _ (by simp)]; exact hfa.cell c0 (by simp)
    · rw [h17, World.cell?_setCell_same' _ _ _ (by rw [c114]; rfl), htot, wrap_i64 (by omega) (by omega)]; simp
    · rw [h17, World.frozen?_setCell]; exact cz14
    · rw [h17]
      exact (hf8.trans hfa fun q hq h => h.elim).trans' (.set _ _ _ rfl)
  have hge := of_decide_eq_false hge
  have hk' : k = n := by omega
  rw [hk', ← hn, List.take_of_length_le (Nat.le_refl _)] at c1
  refine ⟨fun hb => ⟨hf8', .inl ⟨rfl, .inl (by have := of_decide_eq_true hb; omega)⟩⟩, fun hb => ⟨_, c1, fun hb2 => ⟨hf8', .inl ⟨rfl, .inr (by have := of_decide_eq_true hb2; omega)⟩⟩, fun hb2 => ⟨l3, c0, ?_⟩⟩⟩
  have hb := of_decide_eq_false hb
  have hb2 := of_decide_eq_false hb2
  have ho8 : OwnK encF 2 w8 w.heap.size T_api_File l3 xs := (ho2.keep hf4 (by simp)).keep hf8 fun y hy e => by have := (ho2.blk hy).2; omega
  have hsort : Calls Tryd.prog 39 #[.slice l3.a l3.len l3.cap, .func (.func F_snap_byPath) #[] #[]] w8 fun r w' => r = .returned (.tuple #[]) ∧ ∃ ys : List FileE, ys.Perm xs ∧ Rising ys ∧ OwnK encF 2 w' w.heap.size T_api_File l3 ys ∧ Fr (At l3) w8 w' := by
    rcases ho8.2.2 with ⟨hv, hz⟩ | ⟨g, cap, cur, hv, _⟩
    · simp only [Value.slice.injEq] at hv
      have hx0 : xs = [] := List.length_eq_zero_iff.1 (by have := ho8.1; omega)
      have ho8' := ho8
      rw [hv.1, hv.2.1, hv.2.2]
      refine (hnil w8).mono ?_
      rintro e w' ⟨rfl, rfl⟩
      exact ⟨rfl, xs, .refl _, by rw [hx0]; exact .nil, ho8', .refl _ _⟩
    · simp only [Value.slice.injEq] at hv
      exact sort_spec ho8 hv.1 (by omega)
  refine hsort.mono ?_
  rintro e w21 ⟨rfl, ys, hperm, hris, ho21, hf21⟩
  have hlen : ys.length = l3.len := ho21.1
  have hyl : ys.length = xs.length := hperm.length_eq
  have hne : ¬ At l3 w2.heap.size := fun ⟨y, hy, e⟩ => by have := (ho2.blk hy).2; omega
  have hat : ∀ {q : Nat}, q < w.heap.size → ¬ At l3 q := fun hq ⟨y, hy, e⟩ => by have := (ho2.blk hy).1; omega
  have hf21' : Fr (fun _ => False) w w21 := hf8'.trans hf21 fun q hq h => hat hq h
  have hS : IsSnap w21 w2.heap.size l3 ys (totalF xs) := ⟨hf21.cell c0 hne, hf21.cell c1 hne, hlen, ho21.reads fun _ => rfl, by omega⟩
  have bad : ∀ {w' : World}, Fr (fun _ => False) w21 w' → ¬ NewOK ys → NewR w xs (.tuple #[.pointer none, .int .i64 4]) w' := fun hf h => ⟨hf21'.trans' hf, .inr ⟨by omega, by omega, ys, hperm, hris, .inl ⟨h, rfl⟩⟩⟩
  refine ⟨rfl, l3, hS.files, fun i w' => ∃ k : Nat, i = k ∧ k ≤ ys.length ∧ (∀ j, j < k → okF ys j) ∧ Fr (fun _ => False) w21 w', fun i _ => ys.length - i.toNat, ⟨0, rfl, Nat.zero_le _, fun j hj => by omega, .refl _ _⟩, ?_⟩
  rintro i w26 ⟨k, rfl, hk, hall, hf26⟩
  have e1 : IntKind.i64.wrap ((k : Int) + 1) = ((k + 1 : Nat) : Int) := by rw [wrap_i64 (by omega) (by omega)]; omega
  rw [e1]
  refine ⟨fun hlt => ?_, fun hge => ?_⟩
  · have hlt := of_decide_eq_true hlt
    have hkl : k < ys.length := by omega
    have hx : ys[k]? = some ys[k] := List.getElem?_eq_getElem hkl
    generalize ys[k] = x at hx
    have hxs : x.path.size ≤ 140737488355328 := hp x (hperm.subset (List.mem_of_getElem? hx))
    obtain ⟨ad, had, hload⟩ := (hS.keep hf26).reads.load elF hx
    refine ⟨⟨by omega, by omega⟩, ad, had, x.path, x.data, by rw [Int.toNat_natCast]; exact hload, fun w30 h30 => ?_⟩
    subst h30
    refine ⟨_, boxF_run w26 x, fun w32 d32 => ?_⟩
    have hfa : Fr (fun _ => False) w26 w32 := (Fr.alloc (fun _ => False) w26 (.cells (encF x).toArray T_api_File)).trans' (.drew _ d32)
    have hbx : w32.cell? ⟨w26.heap.size, 0, none⟩ = some (.string x.path) := boxF_cell w26 x (.drew (fun _ => False) d32) (by simp) rfl
    have hf32 := hf26.trans' hfa
    refine ⟨fun w' => Fr (fun _ => False) w32 w', .refl _ _, x.path, fun w' hw' => hw'.cell hbx (by simp), (clean_spec x.path hxs w32).mono ?_⟩
    rintro e w37 ⟨rfl, hf37⟩
    have hf37' := hf32.trans' hf37
    refine ⟨_, rfl, hf37, fun hb => bad hf37' fun h => ?_, fun hb => ⟨fun h0 => ?_, fun h0 => ?_⟩⟩
    · have := (h.1 k x hx).1
      rw [this] at hb; cases hb
    · have hb : cleanB x.path = true := by simpa using hb
      have h0 := of_decide_eq_true h0
      have e2 : IntKind.i64.wrap ((k : Int) - 1) = ((k - 1 : Nat) : Int) := by rw [wrap_i64 (by omega) (by omega)]; omega
      rw [e2]
      have hy : ys[k - 1]? = some ys[k - 1] := List.getElem?_eq_getElem (by omega)
      generalize ys[k - 1] = y at hy
      obtain ⟨ad', had', _⟩ := hS.reads.load elF hy
      refine ⟨l3, fun w' hw' => (hS.keep (hf32.trans' hw')).files, ⟨by omega, by omega⟩, ad', had', y.path, fun w' hw' => ?_, x.path, fun w' hw' => hw'.cell hbx (by simp), fun he => bad hf37' fun h => ?_, fun he => ⟨⟨k + 1, rfl, by omega, fun j hj => ?_, hf37'⟩, by dsimp only; omega⟩⟩
      · obtain ⟨b, hb', hc⟩ := (hS.keep (hf32.trans' hw')).reads (k - 1) y hy
        rw [had'] at hb'; cases hb'
        have := hc 0 (.string y.path) rfl
        rw [add_add] at this
        rw [Int.toNat_natCast]; simpa using this
      · rw [bs_eq] at he
        exact (h.1 k x hx).2 y (by omega) hy (of_decide_eq_true he)
      · rw [bs_eq] at he
        by_cases hjk : j = k
        · subst hjk
          intro z hz
          rw [hx] at hz; cases hz
          refine ⟨hb, fun y' _ hy' => ?_⟩
          rw [hy] at hy'; cases hy'
          exact of_decide_eq_false he
        · exact hall j (by omega)
    · have hb : cleanB x.path = true := by simpa using hb
      have h0 := of_decide_eq_false h0
      refine ⟨⟨k + 1, rfl, by omega, fun j hj => ?_, hf37'⟩, by dsimp only; omega⟩
      by_cases hjk : j = k
      · subst hjk
        intro z hz
        rw [hx] at hz; cases hz
        exact ⟨hb, fun y' h1 _ => by omega⟩
      · exact hall j (by omega)
  have hge := of_decide_eq_false hge
  have hokA : ∀ j, okF ys j := fun j => by
    by_cases hj : j < k
    · exact hall j hj
    · intro x hx
      have := (List.getElem?_eq_some_iff.1 hx).1
      omega
  clear hall e1
  refine ⟨l3, (hS.keep hf26).files, fun i w' => ∃ k : Nat, i = k ∧ k ≤ ys.length ∧ (∀ x ∈ ys.take k, underE ys (x.path ++ ⟨#[47]⟩) = []) ∧ Fr (fun _ => False) w21 w', fun i _ => ys.length - i.toNat, ⟨0, rfl, Nat.zero_le _, fun x hx => by simp at hx, hf26⟩, ?_⟩
  rintro i w50 ⟨k, rfl, hk, hall, hf50⟩
  have e1 : IntKind.i64.wrap ((k : Int) + 1) = ((k + 1 : Nat) : Int) := by rw [wrap_i64 (by omega) (by omega)]; omega
  rw [e1]
  refine ⟨fun hlt => ?_, fun hge => ?_⟩
  · have hlt := of_decide_eq_true hlt
    have hkl : k < ys.length := by omega
    have hx : ys[k]? = some ys[k] := List.getElem?_eq_getElem hkl
    generalize ys[k] = x at hx
    have hxs : x.path.size ≤ 140737488355328 := hp x (hperm.subset (List.mem_of_getElem? hx))
    obtain ⟨ad, had, hload⟩ := (hS.keep hf50).reads.load elF hx
    refine ⟨⟨by omega, by omega⟩, ad, had, x.path, x.data, by rw [Int.toNat_natCast]; exact hload, fun w54 h54 => ?_⟩
    subst h54
    have hfa : Fr (fun _ => False) w50 (w50.alloc (.cells (encF x).toArray T_api_File)) := .alloc _ _ _
    refine ⟨_, boxF_run w50 x, x.path, boxF_cell w50 x (.refl (fun _ => False) _) (by simp) rfl, by rw [show (ByteArray.mk #[47]).size = 1 from rfl]; omega, (under_spec (hS.keep (hf50.trans' hfa)) hris _).mono ?_⟩
    rintro e w58 ⟨o, rfl, ho, hf58⟩
    have hf58' := (hf50.trans' hfa).trans' hf58
    have hol : o.len = (underE ys (x.path ++ ⟨#[47]⟩)).length := by rw [ho.len]; simp [strV]
    refine ⟨o, rfl, fun h0 => bad hf58' fun h => ?_, fun h0 => ⟨⟨k + 1, rfl, by omega, fun y hy => ?_, hf58'⟩, by dsimp only; omega⟩⟩
    · have h0 := of_decide_eq_true h0
      rw [h.2 x (List.mem_of_getElem? hx)] at hol
      simp at hol; omega
    · have h0 := of_decide_eq_false h0
      rw [List.take_add_one, hx] at hy
      rcases List.mem_append.1 hy with hy | hy
      · exact hall y hy
      · simp only [Option.toList, List.mem_cons, List.mem_nil_iff, or_false] at hy
        subst hy
        exact List.length_eq_zero_iff.1 (by omega)
  · have hge := of_decide_eq_false hge
    have hk' : k = ys.length := by omega
    rw [hk', List.take_of_length_le (Nat.le_refl _)] at hall
    exact ⟨hf21'.trans' hf50, .inr ⟨by omega, by omega, ys, hperm, hris, .inr ⟨⟨hokA, hall⟩, _, l3, rfl, ⟨hsz, fun x hx => (ho2.blk hx).1⟩, hS.keep hf50⟩⟩⟩
end Go.Proofs.YtmhlmdnhpfhoeaaDoor
