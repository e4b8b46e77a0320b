/- Rows that are made and stored at once; the places of the codes of lengths. -/
import Derived.Test.YtofejgaanpaieaaInfE
import Derived.Laws.OwnMore
import Derived.Laws.CopyRow
set_option linter.unusedVariables false
namespace Go.Proofs.Ytofejgaanpaieaa
open Go Vc BitsM HuffM Go.Proofs

theorem make_ints {w : World} {base n : Nat} (hn : n ≤ 1000) (hbase : base ≤ w.heap.size) :
    ∃ w', (Instr.makeSlice T_S_int (.int .i64 (n : Int)) (.int .i64 (n : Int))).run Try.prog w = .ok (.slice (some ⟨w.heap.size, 0, none⟩) n n) w' ∧ Own w' base T_int ⟨some ⟨w.heap.size, 0, none⟩, n, n⟩ (nv (List.replicate n 0)) ∧ Fr (fun _ => False) w w' := by
  obtain ⟨i, hi, hi2⟩ := Option.map_eq_some_iff.1 elInt.info
  simp only [Prod.mk.injEq] at hi2
  obtain ⟨hz, hs1, hby⟩ := hi2
  obtain ⟨w', hr, ho, hg⟩ := run_makeSlice_full (P := Try.prog) w base T_S_int T_int i (.int .i64 0) 1 elInt.sl hi hz hs1 .i64 .i64 n (by omega) (by rw [hby]; omega) (by unfold maxLen; omega) hbase
  refine ⟨w', hr, ?_, (Fr.grown hg).mono fun k _ hk => by cases hk⟩
  have := (Own.ofRow ho).1
  rwa [show (madeCells (Value.int .i64 0).cells (n * 1)).toList = nv (List.replicate n 0) from ?_] at this
  unfold madeCells
  simp [nv, Value.cells, Nat.mod_one]
  exact List.eq_replicate_iff.2 ⟨by simp, fun b hb => by obtain ⟨x, _, rfl⟩ := List.mem_map.1 hb; rfl⟩
theorem St.keep2 {w w2 : World} {base b rb off p most : Nat} {sl : Sl} {s : ByteArray} {out : List UInt8} (h : St w base b rb sl s off p out most) {X : Nat → Prop} (hf : Fr X w w2) (h1 : ¬ X b) (h2 : ¬ X rb) (h3 : ∀ y, sl.a = some y → ¬ X y.block) : St w2 base b rb sl s off p out most :=
  ⟨hf.keep h.blk h1, h.own.keep hf h3, h.rd.keep hf h2, h.hb, h.hrb, h.ne, Nat.le_trans h.hbase hf.size, h.fit, h.small⟩
theorem St.lts {w : World} {base b rb off p most : Nat} {sl : Sl} {s : ByteArray} {out : List UInt8} (h : St w base b rb sl s off p out most) : b < w.heap.size ∧ rb < w.heap.size ∧ ∀ y, sl.a = some y → y.block < w.heap.size :=
  ⟨lt_blk h.blk, h.rd.lt, fun y hy => (h.own.blk hy).2⟩
theorem setRow_frI (X : Nat → Prop) (w : World) (g : Nat) (cs : Array Value) (h : X g) : Fr X w (w.setRow g cs) :=
  ⟨rfl, rfl, rfl, by simp [World.setRow], fun k _ hx => by
    simp only [World.setRow, Array.getElem?_modify]
    rw [if_neg (fun e => hx (by rw [← e]; exact h))]⟩
theorem one_nv (l : List Nat) : ∀ u ∈ nv l, u.oneCell' = true := fun u h => by
  obtain ⟨b, _, rfl⟩ := List.mem_map.1 h; rfl
theorem index_aggI {P : Program} {w : World} (t e : TypeId) (n : Nat) (cs : List Value) (k : IntKind) (i : Nat) (h : P.underlying t = some (.array n e)) (hs : (P.info? e).map (·.size) = some 1) (hl : cs.length = n) (hin : i < n) (ho : one P e = true) :
    (Instr.index t (.agg cs.toArray) (.int k (i : Int))).run P w = .ok (cs.getD i undef) w := by
  obtain ⟨ie, hie, hsz⟩ := Option.map_eq_some_iff.1 hs
  have hn : 0 ≤ (i : Int) ∧ (i : Int) < (n : Int) := by omega
  have hsize : ∀ w, (Go.sizeOf e).run P w = .ok 1 w := fun w => by simp [Go.sizeOf, typeInfo, hie, hsz]
  have hi : i < cs.length := by omega
  simp [Instr.index, run_underlying h, asIntOf, hin, go_sem, hsize, run_isAgg ho, Result.andThen, hi]
theorem subA_block {a : Option Addr} {c l sz : Nat} {x : Addr} (h : subA a c l sz = some x) : ∃ y, a = some y ∧ y.block = x.block := by
  unfold subA at h
  split at h
  · exact ⟨x, h, rfl⟩
  · obtain ⟨y, hy, rfl⟩ := Option.map_eq_some_iff.1 h
    exact ⟨y, hy, (add_block _ _).symm⟩
/-- The places, in their order. -/
theorem order_spec (w : World) : Calls Try.prog F_inflate_order #[] w fun e w' => e = .returned (.agg (nv InfM.places).toArray) ∧ Fr (fun _ => False) w w' := by
  refine vc_inflate_order_ok (R := fun v w' => v = .agg (nv InfM.places).toArray ∧ Fr (fun _ => False) w w') ?_ (fun v w' h => ⟨by rw [h.1], h.2⟩)
  intro w1 hw1
  have f1 : Fr (fun _ => False) w w1 := hw1 ▸ Fr.alloc _ _ _
  have hg : w1.heap[w.heap.size]? = some (.cells (nv (List.replicate 19 0)).toArray T_19_int (0, 0)) := by rw [hw1]; exact alloc_new _ _
  have hr := run_storeVar_row (P := Try.prog) w1 w.heap.size T_19_int T_19_int _ (nv InfM.places).toArray hg (by kernel_rfl) (by rfl) (by rw [Array.all_eq_true_iff_forall_mem]; intro v hv; exact one_nv _ v (by simpa using hv))
  refine ⟨w1.setRow w.heap.size (nv InfM.places).toArray, Eq.mp (by kernel_rfl) hr, ?_⟩
  have hs := setRow_heap w1 w.heap.size _ (nv InfM.places).toArray T_19_int (0, 0) hg
  have hload := load_agg (P := Try.prog) (t := T_19_int) (w := w1.setRow w.heap.size (nv InfM.places).toArray) (a := ⟨w.heap.size, 0, none⟩) (vs := nv InfM.places) (agg_of (by kernel_rfl)) (by kernel_rfl) (fun j v hv => by
    rw [add_lit, cell_blk hs]; simpa using hv)
  exact ⟨_, hload, rfl, f1.trans (setRow_frI (· = w.heap.size) w1 w.heap.size _ rfl) (fun q hq h => by omega)⟩
end Go.Proofs.Ytofejgaanpaieaa
