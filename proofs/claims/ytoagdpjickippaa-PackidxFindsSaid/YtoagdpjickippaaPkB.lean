/- packidx.Build: what rows have as bytes. Conditions: the names are no longer than memory. -/
import Derived.Test.YtoagdpjickippaaPkP
import Derived.Test.YtoagdpjickippaaCmpS
import Derived.Test.YtoagdpjickippaaSortK
import Derived.Test.YtoagdpjickippaaLaysS
import Derived.Test.YtoagdpjickippaaHexP
import Derived.Test.YtoagdpjickippaaPk2
import Derived.Shelf.SlSortCmp.NoneTotal
set_option linter.unusedVariables false
namespace PkM
open SumM
theorem nearV_snoc (far : Int) : ∀ (k : Nat) (l : List Rw) (r : Rw), nearV far k (l ++ [r]) = nearV far k l ++ [if isFar far r = true then 2147483648 + k + (l.filter (isFar far)).length else r.2.1]
  | k, [], r => by
    show (if isFar far r = true then (2147483648 + k) :: nearV far (k + 1) [] else r.2.1 :: nearV far k []) = [] ++ [if isFar far r = true then 2147483648 + k + (([] : List Rw).filter (isFar far)).length else r.2.1]
    by_cases h : isFar far r = true
    · rw [if_pos h, if_pos h]; rfl
    · rw [if_neg h, if_neg h]; rfl
  | k, x :: l, r => by
    rw [List.cons_append, nearV, nearV]
    by_cases hx : isFar far x = true
    · rw [if_pos hx, if_pos hx, nearV_snoc far (k + 1) l r, List.filter_cons_of_pos hx, List.length_cons, show 2147483648 + (k + 1) + (l.filter (isFar far)).length = 2147483648 + k + ((l.filter (isFar far)).length + 1) by omega]; rfl
    · rw [if_neg hx, if_neg hx, nearV_snoc far k l r, List.filter_cons_of_neg hx]; rfl
theorem cnt_snoc (l : List Rw) (r : Rw) (c : Nat) : cnt (l ++ [r]) c = if hd0 r.1 ≤ c then cnt l c + 1 else cnt l c := by
  unfold cnt
  rw [List.filter_append, List.length_append]
  by_cases h : hd0 r.1 ≤ c
  · rw [if_pos h, List.filter_cons_of_pos (by simpa using h)]; rfl
  · rw [if_neg h, List.filter_cons_of_neg (by simpa using h)]; rfl
end PkM
namespace Go.Proofs.Ytoagdpjickippaa
open Go Vc HexM SumM ShaM Go.Proofs Go.Sort

theorem bs_cat (A B : List UInt8) : (⟨A.toArray⟩ : ByteArray) ++ ⟨B.toArray⟩ = ⟨(A ++ B).toArray⟩ := bs_ext (by rw [bs_app, bs_mk, bs_mk, bs_mk])
def cmpP (x y : PRow) : Int := Lib.compareBytes x.1.data.toList y.1.data.toList
theorem ltP (x y : PRow) : ltOf cmpP x y = decide (x.1.data.toList < y.1.data.toList) := decide_eq_decide.2 (cmp_lt _ _)
theorem swoP : SWO (ltOf cmpP) where
  irrefl x := by rw [ltP, decide_eq_false_iff_not]; exact List.lt_irrefl _
  trans x y z h1 h2 := by
    rw [ltP, decide_eq_true_eq] at *
    exact List.lt_trans h1 h2
  ntrans x y z h1 h2 := by
    rw [ltP, decide_eq_false_iff_not] at *
    intro h
    rcases lt_tri x.1.data.toList y.1.data.toList with h3 | h3 | h3
    · exact h1 h3
    · rw [h3] at h; exact h2 h
    · exact h2 (List.lt_trans h3 h)
theorem byId_spec (x y : PRow) (w : World) : Calls Try.prog F_packidx_Build_1 #[.agg (encP x).toArray, .agg (encP y).toArray] w fun e w' => e = .returned (.int .i64 (cmpP x y)) ∧ ∃ q os', w' = grow (w.drewN q) os' := by
  refine vc_packidx_Build_1_ok (R := fun v w' => v = .int .i64 (cmpP x y) ∧ ∃ q os', w' = grow (w.drewN q) os') ?_ (fun v w' h => ⟨by rw [h.1], h.2⟩)
  intro w1 h1 w2 h2
  have hb1 : w1.heap[w.heap.size]? = some (.cells (encP x).toArray T_packidx_Row (0, 0)) := by rw [h1]; exact alloc_new _ _
  have hb2 : w2.heap[w1.heap.size]? = some (.cells (encP y).toArray T_packidx_Row (0, 0)) := by rw [h2]; exact alloc_new _ _
  have hb1' : w2.heap[w.heap.size]? = some (.cells (encP x).toArray T_packidx_Row (0, 0)) := by rw [h2]; exact (Fr.alloc (fun _ => False) _ _).keep hb1 (by simp)
  refine ⟨x.1, by rw [cell_blk hb1']; rfl, y.1, by rw [cell_blk hb2]; rfl, (compare_spec _ _ w2).mono ?_⟩
  rintro e w6 ⟨rfl, rfl⟩
  refine ⟨_, rfl, rfl, 0, #[.cells (encP x).toArray T_packidx_Row (0, 0), .cells (encP y).toArray T_packidx_Row (0, 0)], ?_⟩
  rw [h2, h1, alloc_eq_grow, alloc_eq_grow, grow_grow]
  rfl
instance : Inhabited PRow := ⟨⟨#[]⟩, 0, 0⟩
/-- 'slices.SortFunc' of rows by their names. -/
theorem sortP_spec {w : World} {base : Nat} {e : TypeId} {l : Sl} {xs : List PRow} (h : OwnK encP 3 w base e l xs) (hsz : xs.length ≤ 1000000) :
    Calls Try.prog 18 #[.slice l.a l.len l.cap, .func (.func F_packidx_Build_1) #[] #[]] w fun r w' =>
      r = .returned (.tuple #[]) ∧ ∃ ys : List PRow, ys.Perm xs ∧ NearP ys ∧ OwnK encP 3 w' base e l ys ∧ Fr (At l) w w' := by
  have hlen := h.1
  cases ha : l.a with
  | none =>
    have hl0 : l.len = 0 ∧ l.cap = 0 := by
      rcases h.2.2 with ⟨hv, _⟩ | ⟨g, cap, cur, hv, _⟩
      · simp only [Value.slice.injEq] at hv; exact ⟨hv.2.1, hv.2.2⟩
      · simp only [Value.slice.injEq] at hv; rw [ha] at hv; cases hv.1
    have hx : xs = [] := List.length_eq_zero_iff.1 (by omega)
    subst hx
    rw [hl0.1, hl0.2]
    refine (AnyF.slices_SortFunc_none sortLays none 0 _ w).mono ?_
    rintro r w' ⟨rfl, rfl⟩
    exact ⟨rfl, [], List.Perm.refl _, List.Pairwise.nil, h, .refl _ _⟩
  | some ad =>
    obtain ⟨g, rfl⟩ : ∃ g, ad = ⟨g, 0, none⟩ := by
      rcases h.2.2 with ⟨hv, _⟩ | ⟨g, cap, cur, hv, _⟩
      · simp only [Value.slice.injEq] at hv; rw [ha] at hv; cases hv.1
      · simp only [Value.slice.injEq] at hv; rw [ha] at hv; exact ⟨g, Option.some.inj hv.1⟩
    obtain ⟨cur, hg, _⟩ := own_row h ha
    have hc := AnyQ.slices_SortFunc sortLays 3 Try.isAgg32 Try.sizeOf32 encP (fun _ => rfl) (fun x v hv => by
      simp only [encP, List.mem_cons, List.mem_nil_iff, or_false] at hv
      rcases hv with rfl | rfl | rfl <;> rfl) cmpP swoP F_packidx_Build_1 #[] g 0 l.cap xs.toArray w (enters_of (P := Try.prog) Try.func19 (by kernel_rfl) rfl)
      (fun m os dk _ x y => byId_spec x y _) (own_holds (fun _ => rfl) (by decide) h ha) (lt_blk hg) (by rw [List.size_toArray]; omega)
    have hl : l.len = xs.length := h.1.symm
    rw [hl]
    rw [List.size_toArray] at hc
    refine hc.mono ?_
    rintro r w' ⟨rfl, d', n, os, ⟨p1, _, p3⟩, p4, rfl⟩
    have p1 : d'.size = xs.length := by simpa using p1
    refine ⟨rfl, d'.toList, ?_, ?_, ?_, ?_⟩
    · have e1 : (d'.extract 0 xs.length).toList = d'.toList := by rw [← p1]; simp
      have e2 : (xs.toArray.extract 0 xs.length).toList = xs := by simp
      rw [e1, e2] at p3
      exact p3
    · unfold NearP
      rw [List.pairwise_iff_getElem]
      intro i j hi hj hij
      have := p4 i j (Nat.zero_le _) hij (by rw [Array.length_toList] at hj; omega)
      rw [Array.length_toList] at hi hj
      rw [getElem!_pos d' i hi, getElem!_pos d' j hj, ltP, decide_eq_false_iff_not] at this
      simpa using this
    · have := own_sorted (enc := encP) (k := 3) (fun _ => rfl) (by decide) h ha n d'.toList (by rw [Array.length_toList, p1]) os
      simpa using this
    · have := sort_fr (enc := encP) (k := 3) (w := w) (g := g) n d'.toList os
      exact (by simpa using this : Fr (· = g) w (sortWorldK encP 3 w g 0 n d' os)).mono fun q _ e => ⟨_, ha, e⟩
theorem cloneP_spec {w : World} {a : Option Addr} {n c : Nat} {xs : List PRow} (hr : ReadsK encP 3 w a xs) (hn : xs.length = n) (hl : n ≤ 1000000) : Calls Try.prog F_slices_Clone #[.slice a n c] w fun e w' =>
    ∃ l, e = .returned (.slice l.a l.len l.cap) ∧ OwnK encP 3 w' w.heap.size T_packidx_Row l xs ∧ Fr (fun _ => False) w w' := by
  refine vc_slices_Clone_ok (R := fun v w' => ∃ l : Sl, v = .slice l.a l.len l.cap ∧ OwnK encP 3 w' w.heap.size T_packidx_Row l xs ∧ Fr (fun _ => False) w w') ?_ (fun v w' ⟨l, h⟩ => ⟨l, by rw [h.1], h.2⟩)
  refine ⟨fun ha => ?_, fun ha w1 h1 => ?_⟩
  · have ha : a = none := by simpa using ha
    have hx : xs = [] := by
      cases xs with
      | nil => rfl
      | cons x r =>
        obtain ⟨ad, h, _⟩ := hr 0 x rfl
        rw [ha] at h; cases h
    subst hx
    exact ⟨⟨none, 0, 0⟩, rfl, .nil _ _ _, .refl _ _⟩
  · have hf1 : Fr (fun _ => False) w w1 := by rw [h1]; exact .alloc _ _ _
    have ho1 : OwnK encP 3 w1 w.heap.size T_packidx_Row ⟨some ⟨w.heap.size, 0, none⟩, 0, 0⟩ [] := by rw [h1]; exact .empty w _
    obtain ⟨w2, l3, hr2, ho2, hf2⟩ := append_allK elP ho1 c (hr.keep hf1 (by simp)) (by simp [maxLen]; omega) (by simp; omega) hf1.size hn
    exact ⟨w2, l3, hr2, l3, rfl, ho2, hf1.trans hf2 fun q hq ⟨y, hy, e⟩ => by cases hy; simp only at e; omega⟩
theorem boxP_run (w : World) (x : PRow) : (storeVar T_packidx_Row ⟨w.heap.size, 0, none⟩ (.agg #[.string x.1, .int .i64 x.2.1, .int .u32 x.2.2])).run Try.prog (w.alloc (.cells #[.string ⟨#[]⟩, .int .i64 0, .int .u32 0] T_packidx_Row)) = .ok () (w.alloc (.cells (encP x).toArray T_packidx_Row)) :=
  run_storeVar_new w T_packidx_Row _ _ (by kernel_rfl) rfl (by simp [Value.oneCell'])
theorem boxP_cell (w : World) (x : PRow) {w' : World} {X : Nat → Prop} (hf : Fr X (w.alloc (.cells (encP x).toArray T_packidx_Row)) w') (hx : ¬ X w.heap.size) {j : Nat} {v : Value} (hv : (encP x)[j]? = some v) : w'.cell? ⟨w.heap.size, j, none⟩ = some v :=
  hf.cell (by rw [cell_blk (alloc_new w _)]; simpa using hv) hx
/-- How many names are below a first byte. -/
def CntAt (w : World) (b : Nat) (F : Nat → Nat) : Prop := ∃ cs : Array Value, w.heap[b]? = some (.cells cs T_256_int (0, 0)) ∧ cs.size = 256 ∧ ∀ c, c < 256 → cs[c]? = some (.int .i64 (F c : Nat))
theorem CntAt.keep {w w1 : World} {b : Nat} {F : Nat → Nat} (h : CntAt w b F) {X : Nat → Prop} (hf : Fr X w w1) (hx : ¬ X b) : CntAt w1 b F := by
  obtain ⟨cs, h1, h2⟩ := h
  exact ⟨cs, hf.keep h1 hx, h2⟩
theorem CntAt.at {w : World} {b : Nat} {F : Nat → Nat} (h : CntAt w b F) {c : Nat} (hc : c < 256) : w.cell? ⟨b, c, none⟩ = some (.int .i64 (F c : Nat)) ∧ Wr w ⟨b, c, none⟩ := by
  obtain ⟨cs, h1, h2, h3⟩ := h
  exact ⟨by rw [cell_blk h1]; exact h3 c hc, wr_blk h1 (by omega)⟩
theorem CntAt.set {w : World} {b : Nat} {F G : Nat → Nat} (h : CntAt w b F) {c v : Nat} (hc : c < 256) (hG : ∀ k, k < 256 → G k = if k = c then v else F k) : CntAt (w.setCell ⟨b, c, none⟩ (.int .i64 (v : Nat))) b G := by
  obtain ⟨cs, h1, h2, h3⟩ := h
  refine ⟨_, set_blk h1 _ _, by simpa using h2, fun k hk => ?_⟩
  rw [Array.getElem?_setIfInBounds, hG k hk]
  by_cases hkc : k = c
  · rw [if_pos hkc.symm, if_pos (by omega), if_pos hkc]
  · rw [if_neg (fun e => hkc e.symm), if_neg hkc]; exact h3 k hk
theorem CntAt.load {w : World} {b : Nat} {F : Nat → Nat} (h : CntAt w b F) : (loadVar T_256_int ⟨b, 0, none⟩).run Try.prog w = .ok (.agg ((List.range 256).map fun c => .int .i64 (F c : Nat)).toArray) w := by
  refine load_agg (vs := (List.range 256).map fun c => Value.int .i64 (F c : Nat)) (agg_of (by kernel_rfl)) (by rw [List.length_map, List.length_range]; kernel_rfl) fun k v hv => ?_
  rw [add_lit, Nat.zero_add]
  rw [List.getElem?_map] at hv
  by_cases hk : k < 256
  · rw [List.getElem?_range hk, Option.map_some, Option.some.injEq] at hv
    rw [← hv]; exact (h.at hk).1
  · rw [List.getElem?_eq_none (by rw [List.length_range]; omega)] at hv; cases hv
theorem id_unhex (s : ByteArray) : isId s.data.toList = ((unhexL s.data.toList).isSome && decide ((unhexS s).size = 20)) := by
  unfold isId unhexS
  cases h : unhexL s.data.toList with
  | none => rfl
  | some r =>
    have := unhexL_len _ _ h
    show (true && (s.data.toList.length == 40)) = (true && decide ((⟨r.toArray⟩ : ByteArray).size = 20))
    rw [Bool.true_and, Bool.true_and, bs_mksize, Bool.eq_iff_iff, beq_iff_eq, decide_eq_true_eq]; omega
theorem unhexS_raw {s : ByteArray} (h : isId s.data.toList = true) : unhexS s = ⟨(rawB s).toArray⟩ ∧ (unhexS s).size = 20 ∧ (unhexL s.data.toList).isSome = true := by
  obtain ⟨h1, h2, h3⟩ := rawB_id h
  have : unhexS s = ⟨(rawB s).toArray⟩ := by unfold unhexS; rw [h1]
  exact ⟨this, by rw [this, bs_mksize, h2], by rw [h1]; rfl⟩
theorem digest_len (t : List UInt8) : (sha1D t).length = 20 := dig1_len t
end Go.Proofs.Ytoagdpjickippaa
