/- Texts of this seat in one: made by a program of ours. -/
import Derived.Test.YtlohadencnpdgaaDoorZipOneQ0
import Derived.Test.YtlohadencnpdgaaDoorZipOneQ1
import Derived.Test.YtlohadencnpdgaaDoorZipOneQ2
import Derived.Test.YtlohadencnpdgaaDoorZipOneQ3
import Derived.Test.YtlohadencnpdgaaDoorProg
import Derived.Deep.Slices
import Derived.Deep.Fields
import Derived.ChangeSame
import Derived.SizedLaws
/- zip.Read of an archive that is right. Conditions: texts no longer than memory; what is inflated is told by the caller. -/
set_option linter.unusedVariables false
namespace Go.Proofs.YtlohadencnpdgaaDoor
open Go Vc SumM Go.Proofs

theorem load_one {w : World} {a : Addr} {T : TypeId} {v : Value} (hu : pureRun Tryd.prog (isAgg T) = some false) (hc : w.cell? a = some v) : (loadVar T a).run Tryd.prog w = .ok v w := by
  unfold loadVar
  rw [Sem.run_bind, pureRun_spec hu w]
  simp [Result.andThen, hc]
/-- What Read keeps in memory: its results' variables; nothing of the elder heap is turned. -/
structure ZSt (w : World) (lf : Sl) (w' : World) : Prop where
  fr : Fr (fun q => w.heap.size ≤ q) w w'
  A : w'.heap[w.heap.size]? = some (.cells #[.slice lf.a lf.len lf.cap] T_S_api_File (0, 0))
  E : w'.heap[w.heap.size + 1]? = some (.cells #[.int .i64 0] T_api_Errno (0, 0))
theorem ZSt.step {w w' w'' : World} {lf : Sl} (h : ZSt w lf w') {X : Nat → Prop} (hf : Fr X w' w'') (hx : ∀ q, q < w'.heap.size → X q → w.heap.size + 2 ≤ q) : ZSt w lf w'' := by
  have hA := lt_blk h.A
  have hE := lt_blk h.E
  refine ⟨h.fr.trans hf fun q hq hX => ?_, hf.keep h.A fun hX => ?_, hf.keep h.E fun hX => ?_⟩
  · have := hx q (by have := h.fr.size; omega) hX; omega
  · have := hx _ hA hX; omega
  · have := hx _ hE hX; omega
theorem ZSt.step0 {w w' w'' : World} {lf : Sl} (h : ZSt w lf w') (hf : Fr (fun _ => False) w' w'') : ZSt w lf w'' := h.step hf fun _ _ h => h.elim
theorem ZSt.stepB {w w' w'' : World} {lf : Sl} (h : ZSt w lf w') {B : Nat} (hf : Fr (· = B) w' w'') (hB : w.heap.size + 2 ≤ B) : ZSt w lf w'' := h.step hf fun q _ e => by omega
/-- An archive that is right. -/
structure GoodZ (es : List EntZ) (s : ByteArray) : Prop where
  text : s.data.toList = arcZ es
  size : s.size ≤ 2097152
  chk : zchk (es.map filZ) = 0
  unp : ∀ x ∈ es, UnpZ x
theorem GoodZ.bounds {es : List EntZ} {s : ByteArray} (h : GoodZ es s) : es.length ≤ 600 ∧ totalF (es.map filZ) ≤ 1048576 ∧ (outZ es).length + (idxZ 0 es).length + 22 = s.size ∧ ∀ x ∈ es, x.path.size ≤ 200 ∧ x.method < 65536 ∧ x.packed.size ≤ 2097152 ∧ x.data.size ≤ 1048576 := by
  obtain ⟨h1, h2, h3⟩ := zchk_ok h.chk
  rw [List.length_map] at h1
  refine ⟨h1, h2, ?_, fun x hx => ?_⟩
  · rw [← bs_len, h.text]
    unfold arcZ
    rw [List.length_append, List.length_append, endL_len]; omega
  · have hc := h3 (filZ x) (List.mem_map_of_mem hx)
    obtain ⟨u1, u2, u3⟩ := h.unp x hx
    unfold cleanB at hc
    simp only [Bool.and_eq_true, decide_eq_true_eq] at hc
    refine ⟨by have : (filZ x).path = x.path := rfl; rw [this] at hc; omega, ?_, u2, u1⟩
    rcases u3 with ⟨hm, _⟩ | ⟨hm, _⟩ <;> omega
set_option maxHeartbeats 1600000 in
theorem zread_spec {es : List EntZ} {s : ByteArray} (hg : GoodZ es s) (w : World) :
    Calls Tryd.prog F_zip_Read #[.string s] w fun e w' => ∃ l : Sl, e = .returned (.tuple #[.slice l.a l.len l.cap, .int .i64 0]) ∧ OwnK encF 2 w' w.heap.size T_api_File l (es.map filZ) ∧ Fr (fun _ => False) w w' := by
  refine vc_zip_Read_ok (R := fun v w' => ∃ l : Sl, v = .tuple #[.slice l.a l.len l.cap, .int .i64 0] ∧ OwnK encF 2 w' w.heap.size T_api_File l (es.map filZ) ∧ Fr (fun _ => False) w w') ?_ (fun v w' ⟨l, h⟩ => ⟨l, by rw [h.1], h.2⟩)
  obtain ⟨hn600, htot, hsz, hx⟩ := hg.bounds
  have hss := hg.size
  have hsb : s.size ≤ 4611686018427387904 := by omega
  intro w1 h1 w2 h2
  have s1 : w1.heap.size = w.heap.size + 1 := by rw [h1]; simp
  have s2 : w2.heap.size = w.heap.size + 2 := by rw [h2]; simp [s1]
  have z2 : ZSt w ⟨none, 0, 0⟩ w2 := by
    refine ⟨((by rw [h1]; exact .alloc _ _ _ : Fr (fun q => w.heap.size ≤ q) w w1)).trans' (by rw [h2]; exact .alloc _ _ _), ?_, ?_⟩
    · rw [h2]; exact (Fr.alloc (fun _ => False) w1 _).keep (by rw [h1]; exact alloc_new w _) (by simp)
    · rw [h2, ← s1]; exact alloc_new w1 _
  refine ⟨fun h => absurd (of_decide_eq_true h) (by omega), fun _ => ⟨fun h => absurd (of_decide_eq_true h) (by omega), fun _ w11 h11 => ?_⟩⟩
  have e22 : IntKind.i64.wrap ((s.size : Int) - 22) = ((s.size - 22 : Nat) : Int) := by rw [wrap_i64 (by omega) (by omega)]; omega
  rw [e22] at h11
  rw [s2, s1]
  have z11 : ZSt w ⟨none, 0, 0⟩ w11 := z2.step0 (by rw [h11]; exact .alloc _ _ _)
  have r11 : RdR w11 (w.heap.size + 2) s (endL es.length (idxZ 0 es).length (outZ es).length) (s.size - 22) := by
    refine ⟨by rw [h11, ← s2]; exact alloc_new w2 _, ?_, by omega⟩
    rw [hg.text]
    unfold arcZ
    rw [← List.append_assoc, List.drop_append, List.drop_of_length_le (by rw [List.length_append]; omega), List.nil_append, List.length_append, show s.size - 22 - ((outZ es).length + (idxZ 0 es).length) = 0 by omega, List.drop_zero]
  clear h1 h2 h11 z2
  have hB2 : w.heap.size + 2 ≤ w.heap.size + 2 := Nat.le_refl _
  have c4 : ∀ u v p q : UInt8, (ByteArray.mk #[u, v, p, q]).size = 4 := fun _ _ _ _ => rfl
  have hE : endL es.length (idxZ 0 es).length (outZ es).length = ([80, 75, 5, 6] ++ littleB 2 0 ++ littleB 2 0) ++ (littleB 2 es.length ++ (littleB 2 es.length ++ (littleB 4 (idxZ 0 es).length ++ (littleB 4 (outZ es).length ++ (littleB 2 0 ++ []))))) := by
    unfold endL; simp only [List.append_assoc, List.append_nil]
  rw [hE] at r11
  refine (two_spec 0 (by decide) w11).mono ?_
  rintro e w13 ⟨rfl, f13⟩
  refine ⟨_, rfl, by simp only [le_size, c4]; omega, (two_spec 0 (by decide) w13).mono ?_⟩
  rintro e w16 ⟨rfl, f16⟩
  refine ⟨_, rfl, by simp only [ByteArray.size_append, le_size, c4]; omega, (wantL_spec (r11.keep (f13.trans' f16) (by simp)) (by simp only [bs_app]) hsb).mono ?_⟩
  rintro e w19 ⟨rfl, r19, f19⟩
  refine ⟨rfl, (number_spec r19 (by decide) (by omega) hsb).mono ?_⟩
  rintro e w21 ⟨rfl, r21, f21⟩
  refine ⟨_, rfl, (number_spec r21 (by decide) (by omega) hsb).mono ?_⟩
  rintro e w24 ⟨rfl, r24, f24⟩
  refine ⟨_, rfl, (number_spec r24 (by decide) (by omega) hsb).mono ?_⟩
  rintro e w27 ⟨rfl, r27, f27⟩
  refine ⟨_, rfl, (number_spec r27 (by decide) (by omega) hsb).mono ?_⟩
  rintro e w30 ⟨rfl, r30, f30⟩
  refine ⟨_, rfl, (two_spec 0 (by decide) w30).mono ?_⟩
  rintro e w33 ⟨rfl, f33⟩
  refine ⟨_, rfl, (wantL_spec (r30.keep f33 (by simp)) (by simp only) hsb).mono ?_⟩
  rintro e w36 ⟨rfl, r36, f36⟩
  have z36 : ZSt w ⟨none, 0, 0⟩ w36 := ((((((((z11.step0 (f13.trans' f16)).stepB f19 hB2).stepB f21 hB2).stepB f24 hB2).stepB f27 hB2).stepB f30 hB2).step0 f33)).stepB f36 hB2
  have b36 := r36.1
  clear r11 r19 r21 r24 r27 r30 r36 f13 f16 f19 f21 f24 f27 f30 f33 f36 z11
  obtain ⟨v36, hv36⟩ : ∃ v : Array Value, w36.heap[w.heap.size + 2]? = some (.cells v T_zip_reader (0, 0)) ∧ v.size = 2 := ⟨_, b36, rfl⟩
  clear b36
  obtain ⟨hv36, hvs⟩ := hv36
  have ef : IntKind.i64.wrap (((outZ es).length : Int) + ((idxZ 0 es).length : Int)) = ((s.size - 22 : Nat) : Int) := by rw [wrap_i64 (by omega) (by omega)]; omega
  refine ⟨rfl, fun w' => w' = w36, ⟨fun _ => (must_spec (by rw [ef, e22]; simp) 3 w36).mono ?_, fun h => by simp at h⟩, ?_⟩
  · rintro e w39 ⟨rfl, rfl⟩; exact ⟨rfl, rfl⟩
  rintro w42 rfl
  refine (must_spec (decide_eq_true (by omega)) 2 w42).mono ?_
  rintro e w44 ⟨rfl, rfl⟩
  rw [e22, Int.toNat_natCast]
  refine ⟨rfl, ⟨by omega, by omega⟩, wr_blk hv36 (by omega), fun w45 h45 => ?_⟩
  obtain ⟨s1', hs1'⟩ : ∃ x : ByteArray, s.extract 0 (s.size - 22) = x := ⟨_, rfl⟩
  rw [hs1'] at h45
  have hb45 : w45.heap[w.heap.size + 2]? = some (.cells (v36.setIfInBounds 0 (.string s1')) T_zip_reader (0, 0)) := by rw [h45, set_blk hv36]
  have hs1l : s1'.data.toList = outZ es ++ idxZ 0 es := by
    rw [← hs1', bs_head, hg.text]
    unfold arcZ
    rw [← List.append_assoc, List.take_append_of_le_length (by rw [List.length_append]; omega), List.take_of_length_le (by rw [List.length_append]; omega)]
  have hs1s : s1'.size = s.size - 22 := by rw [← bs_len, hs1l, List.length_append]; omega
  refine ⟨wr_blk hb45 (by simp [hvs]), fun w46 h46 => ?_⟩
  have hb46 : w46.heap[w.heap.size + 2]? = some (.cells #[.string s1', .int .i64 ((outZ es).length : Int)] T_zip_reader (0, 0)) := by
    rw [h46, set_blk hb45]
    congr 2
    refine Array.ext' ?_
    obtain ⟨a0, a1, ha⟩ : ∃ a0 a1, v36.toList = [a0, a1] := by
      obtain ⟨l⟩ := v36
      match l, hvs with
      | [a0, a1], _ => exact ⟨a0, a1, rfl⟩
    rw [Array.toList_setIfInBounds, Array.toList_setIfInBounds, ha]; rfl
  have f45 : Fr (· = w.heap.size + 2) w44 w45 := by rw [h45]; exact Fr.set (· = w.heap.size + 2) w44 (a := ⟨w.heap.size + 2, 0, none⟩) _ rfl
  have f46 : Fr (· = w.heap.size + 2) w45 w46 := by rw [h46]; exact Fr.set (· = w.heap.size + 2) w45 (a := ⟨w.heap.size + 2, 1, none⟩) _ rfl
  have z46 : ZSt w ⟨none, 0, 0⟩ w46 := (z36.stepB f45 hB2).stepB f46 hB2
  have r46 : RdR w46 (w.heap.size + 2) s1' (idxZ 0 es) (outZ es).length := ⟨hb46, by rw [hs1l]; exact List.drop_left, by omega⟩
  clear hb45 hb46 h45 h46 hv36 z36 f45 f46
  generalize hBB : w.heap.size + 2 = B at *
  have hel : ∀ k, ((entsZ 0 es).take k).length ≤ 600 := fun k => by rw [List.length_take, entsZ_length]; omega
  refine ⟨fun l i w' => ∃ k kk : Nat, i = k ∧ k ≤ es.length ∧ ZSt w ⟨none, 0, 0⟩ w' ∧ RdR w' B s1' (idxZ (outZ (es.take k)).length (es.drop k)) kk ∧ OwnK encT 7 w' (B + 1) T_zip_entry l ((entsZ 0 es).take k), fun l i _ => es.length - i.toNat,
    ⟨0, (outZ es).length, rfl, Nat.zero_le _, z46, r46, by rw [List.take_zero]; exact OwnK.nil _ _ _⟩, ?_⟩
  clear z46 r46
  rintro l i w51 ⟨k, kk, rfl, hk, z51, r51, o51⟩
  refine ⟨fun hlt => ?_, fun hge => ?_⟩
  · have hlt := of_decide_eq_true hlt
    have hkl : k < es.length := by omega
    have hxk : es[k]? = some es[k] := List.getElem?_eq_getElem hkl
    generalize es[k] = x at hxk
    obtain ⟨hx1, hx2, hx3, hx4⟩ := hx x (List.mem_of_getElem? hxk)
    have hcr := (crcW x.data.data.toList).isLt
    have hok : (outZ (es.take k)).length ≤ 2097152 := by
      have := congrArg List.length (outZ_drop es k)
      rw [List.length_append] at this
      omega
    rw [idxZ_drop hxk] at r51
    generalize hrest : idxZ (outZ (es.take (k + 1))).length (es.drop (k + 1)) = rest at r51
    have hcen : cenZ x (outZ (es.take k)).length ++ rest = ([80, 75, 1, 2] ++ littleB 2 20) ++ (factZ x ++ ((littleB 2 0 ++ littleB 2 0 ++ littleB 2 0 ++ littleB 4 0) ++ (littleB 4 (outZ (es.take k)).length ++ (x.path.data.toList ++ rest)))) := by
      unfold cenZ; simp only [List.append_assoc]
    rw [hcen] at r51
    refine (two_spec 20 (by decide) w51).mono ?_
    rintro e w53 ⟨rfl, f53⟩
    refine ⟨_, rfl, by simp only [le_size, c4]; omega, (wantL_spec (r51.keep f53 (by simp)) (by simp only [bs_app]) (by omega)).mono ?_⟩
    rintro e w56 ⟨rfl, r56, f56⟩
    refine ⟨rfl, (head_spec r56 hx2 hcr (by omega) (by omega) (by omega) (by omega)).mono ?_⟩
    rintro e w58 ⟨rfl, r58, f58⟩
    refine ⟨_, _, _, _, _, rfl, fun w64 h64 => ?_⟩
    have hCB := lt_blk r58.1
    have f64 : Fr (fun _ => False) w58 w64 := by rw [h64]; exact .alloc _ _ _
    have hC64 : w64.heap[w58.heap.size]? = some (.cells #[.int .i64 0, .int .u32 0, .int .i64 0, .int .i64 0, .int .i64 0, .string ⟨#[]⟩, .int .i64 0] T_zip_entry (0, 0)) := by rw [h64]; exact alloc_new _ _
    have s51 := ((f53.mono (Y := (· = B)) fun _ _ h => h.elim).trans' (f56.trans' f58)).size
    have z58 := (((z51.step0 f53).stepB f56 (by omega)).stepB f58 (by omega))
    have o58 := ((o51.keep f53 (by simp)).keep f56 fun q hq e => by have := (o51.blk hq).1; omega).keep f58 fun q hq e => by have := (o51.blk hq).1; omega
    have ho58 : ∀ q, l.a = some q → q.block < w51.heap.size := fun q hq => (o51.blk hq).2
    clear h64
    obtain ⟨w65, hrun65, hC65, f65⟩ := box_store (headZ x ++ [.string ⟨#[]⟩, .int .i64 0]) hC64 (by kernel_rfl) rfl (fun v hv => by
      rcases List.mem_append.1 hv with h | h
      · exact headV_one _ _ _ _ _ v h
      · simp only [List.mem_cons, List.mem_nil_iff, or_false] at h
        rcases h with rfl | rfl <;> rfl)
    generalize w58.heap.size = C at *
    refine ⟨w65, hrun65, (two_spec 0 (by decide) w65).mono ?_⟩
    have r65 := (r58.keep f64 (by simp)).keep f65 (by omega)
    have z65 := (z58.step0 f64).stepB f65 (by omega)
    have o65 := (o58.keep f64 (by simp)).keep f65 fun q hq e => by have := ho58 q hq; omega
    rintro e w67 ⟨rfl, f67⟩
    refine ⟨_, rfl, (two_spec 0 (by decide) w67).mono ?_⟩
    rintro e w70 ⟨rfl, f70⟩
    refine ⟨_, rfl, by simp only [le_size]; omega, (two_spec 0 (by decide) w70).mono ?_⟩
    rintro e w73 ⟨rfl, f73⟩
    refine ⟨_, rfl, by simp only [ByteArray.size_append, le_size]; omega, (four_spec 0 (by decide) w73).mono ?_⟩
    rintro e w76 ⟨rfl, f76⟩
    have f65_76 := ((f67.trans' f70).trans' f73).trans' f76
    refine ⟨_, rfl, by simp only [ByteArray.size_append, le_size]; omega, (wantL_spec (r65.keep f65_76 (by simp)) (by simp only [bs_app]) (by omega)).mono ?_⟩
    rintro e w79 ⟨rfl, r79, f79⟩
    refine ⟨rfl, (number_spec r79 (by decide) (by omega) (by omega)).mono ?_⟩
    rintro e w81 ⟨rfl, r81, f81⟩
    have f76_81 := f79.trans' f81
    have hC81 := f76_81.keep (f65_76.keep hC65 (by simp)) (by omega)
    have z81 := (z65.step0 f65_76).stepB f76_81 (by omega)
    have o81 := (o65.keep f65_76 (by simp)).keep f76_81 fun q hq e => by have := (o51.blk hq).1; omega
    refine ⟨_, rfl, wr_blk hC81 (Nat.lt_of_lt_of_eq (by decide : 6 < 7) rfl), fun w83 h83 => ?_⟩
    have hC83 : w83.heap[C]? = some (.cells (headZ x ++ [Value.string ⟨#[]⟩, Value.int .i64 ((outZ (es.take k)).length : Int)]).toArray T_zip_entry (0, 0)) := by rw [h83, set_blk hC81]; rfl
    have f83 : Fr (· = C) w81 w83 := by rw [h83]; exact Fr.set (· = C) w81 (a := ⟨C, 6, none⟩) _ rfl
    refine ⟨x.path.size, by rw [cell_blk hC83]; rfl, (take_spec (r81.keep f83 (by omega)) (bs_len x.path) (by omega)).mono ?_⟩
    rintro e w86 ⟨rfl, r86, f86⟩
    have hC86 := f86.keep hC83 (by omega)
    refine ⟨_, rfl, wr_blk hC86 (Nat.lt_of_lt_of_eq (by decide : 5 < 7) rfl), fun w88 h88 => ?_⟩
    have hC88 : w88.heap[C]? = some (.cells (encT (x, (outZ (es.take k)).length)).toArray T_zip_entry (0, 0)) := by rw [h88, set_blk hC86, bs_self]; rfl
    have f88 : Fr (· = C) w86 w88 := by rw [h88]; exact Fr.set (· = C) w86 (a := ⟨C, 5, none⟩) _ rfl
    have z88 := ((z81.stepB f83 (by omega)).stepB f86 (by omega)).stepB f88 (by omega)
    have o88 := ((o81.keep f83 fun q hq e => by have := ho58 q hq; omega).keep f86 fun q hq e => by have := (o51.blk hq).1; omega).keep f88 fun q hq e => by have := ho58 q hq; omega
    have r88 := r86.keep f88 (by omega)
    refine ⟨_, _, _, _, _, _, _, box_load hC88 (by kernel_rfl) (by kernel_rfl), fun w96 h96 => ?_⟩
    have hb88 := lt_blk r88.1
    obtain ⟨w97, l98, hr97, o97, f97, _⟩ := append_oneK elT o88 (x := (x, (outZ (es.take k)).length)) (by have := hel k; unfold maxLen; omega) (by have := hel k; omega) (by omega) h96
    have e1 : IntKind.i64.wrap ((k : Int) + 1) = ((k + 1 : Nat) : Int) := by rw [wrap_i64 (by omega) (by omega)]; omega
    rw [e1]
    have hent : (entsZ 0 es).take (k + 1) = (entsZ 0 es).take k ++ [(x, (outZ (es.take k)).length)] := by
      rw [List.take_add_one, entsZ_get 0 es k x hxk, Nat.zero_add]; rfl
    refine ⟨w97, l98, hr97, ⟨k + 1, _, rfl, by omega, z88.step f97 ?_, by rw [hrest]; exact r88.keep f97 (by rintro ⟨y, hy, e⟩; have := (o51.blk hy).1; omega), by rw [hent]; exact o97⟩, by dsimp only; omega⟩
    rintro q _ ⟨y, hy, e⟩; have := (o51.blk hy).1; omega
  · have hge := of_decide_eq_false hge
    have hk' : k = es.length := by omega
    subst hk'
    rw [List.drop_length] at r51
    rw [List.take_of_length_le (by rw [entsZ_length]; exact Nat.le_refl _)] at o51
    have hkk := r51.size
    intro w99 d99
    have f99 : Fr (fun _ => False) w51 w99 := .drew _ d99
    have z99 := z51.step0 f99
    have r99 := r51.keep f99 (by simp)
    have o99 := o51.keep f99 (by simp)
    refine ⟨fun w' => RdR w' B s1' [] kk, r99, kk, fun w' h => by rw [cell_blk h.1]; rfl, s1', fun w' h => by rw [cell_blk h.1]; rfl, (must_spec (by simp only [idxZ, List.length_nil] at hkk; rw [← hkk]; simp) 3 w99).mono ?_⟩
    rintro e w106 ⟨rfl, rfl⟩
    refine ⟨rfl, ⟨by omega, by omega⟩, wr_blk r99.1 (Nat.lt_of_lt_of_eq (by decide : 0 < 2) rfl), fun w107 h107 => ?_⟩
    rw [Int.toNat_natCast] at h107
    obtain ⟨s2', hs2'⟩ : ∃ x : ByteArray, s.extract 0 (outZ es).length = x := ⟨_, rfl⟩
    rw [hs2'] at h107
    have hb107 : w107.heap[B]? = some (.cells #[.string s2', .int .i64 (kk : Int)] T_zip_reader (0, 0)) := by rw [h107, set_blk r99.1]; rfl
    have f107 : Fr (· = B) w106 w107 := by rw [h107]; exact Fr.set (· = B) w106 (a := ⟨B, 0, none⟩) _ rfl
    refine ⟨wr_blk hb107 (Nat.lt_of_lt_of_eq (by decide : 1 < 2) rfl), fun w108 h108 => ?_⟩
    have hb108 : w108.heap[B]? = some (.cells #[.string s2', .int .i64 ((0 : Nat) : Int)] T_zip_reader (0, 0)) := by rw [h108, set_blk hb107]; rfl
    have f108 : Fr (· = B) w107 w108 := by rw [h108]; exact Fr.set (· = B) w107 (a := ⟨B, 1, none⟩) _ rfl
    have hs2l : s2'.data.toList = outZ es := by
      rw [← hs2', bs_head, hg.text]
      unfold arcZ
      exact List.take_left
    have z108 := (z99.stepB f107 (by omega)).stepB f108 (by omega)
    have hlB : ∀ q, l.a = some q → B + 1 ≤ q.block := fun q hq => (o51.blk hq).1
    have o108 := (o99.keep f107 fun q hq e => by have := hlB q hq; omega).keep f108 fun q hq e => by have := hlB q hq; omega
    have r108 : RdR w108 B s2' (outZ es) 0 := ⟨hb108, by rw [hs2l]; rfl, Nat.zero_le _⟩
    have hs2s : s2'.size = (outZ es).length := by rw [← bs_len, hs2l]
    clear hb107 hb108 h107 h108 f107 f108 o51 r51 z51 z99 r99 o99 f99
    have hll : l.len = es.length := by have := o108.len; rw [entsZ_length] at this; exact this
    have hlw := fun q hq => (o108.blk (x := q) hq).2
    refine ⟨fun all i w' => ∃ (k : Nat) (lf : Sl), i = k ∧ k ≤ es.length ∧ all = (totalF ((es.map filZ).take k) : Int) ∧ ZSt w lf w' ∧ RdR w' B s2' (outZ (es.drop k)) (outZ (es.take k)).length ∧ OwnK encT 7 w' (B + 1) T_zip_entry l (entsZ 0 es) ∧ OwnK encF 2 w' (B + 1) T_api_File lf ((es.map filZ).take k) ∧ (∀ p q, l.a = some p → lf.a = some q → p.block ≠ q.block), fun all i _ => es.length - i.toNat,
      ⟨0, ⟨none, 0, 0⟩, rfl, Nat.zero_le _, rfl, z108, r108, o108, OwnK.nil _ _ _, fun p q hp hq => by cases hq⟩, ?_⟩
    clear z108 r108 o108
    rintro all i w113 ⟨k, lf, rfl, hk, rfl, z113, r113, o113, p113, hdis⟩
    have hBw := lt_blk r113.1
    refine ⟨fun hlt => ?_, fun hge => ?_⟩
    · have hlt := of_decide_eq_true hlt
      have hkl : k < es.length := by omega
      have hxk : es[k]? = some es[k] := List.getElem?_eq_getElem hkl
      generalize es[k] = x at hxk
      have hxm := List.mem_of_getElem? hxk
      obtain ⟨hx1, hx2, hx3, hx4⟩ := hx x hxm
      have hcr := (crcW x.data.data.toList).isLt
      have hyk : (es.map filZ)[k]? = some (filZ x) := by rw [List.getElem?_map, hxk]; rfl
      have hT1 := totalF_take hyk
      have hT2 := totalF_le (es.map filZ) (k + 1)
      have hxd : (filZ x).data.size = x.data.size := rfl
      rw [hxd] at hT1
      obtain ⟨off, hoff⟩ : ∃ o, (outZ (es.take k)).length = o := ⟨_, rfl⟩
      have hok : off ≤ 2097152 := by
        have := congrArg List.length (outZ_drop es k)
        rw [List.length_append] at this
        omega
      have hent := entsZ_get 0 es k x hxk
      rw [Nat.zero_add, hoff] at hent
      rw [hoff] at r113
      obtain ⟨a114, ha114, hrun114⟩ := (o113.reads elT.len).load elT hent
      rw [Int.toNat_natCast]
      refine ⟨⟨by omega, by omega⟩, a114, ha114, _, _, _, _, _, _, _, hrun114, fun w122 h122 => ?_⟩
      have f122 : Fr (fun _ => False) w113 w122 := by rw [h122]; exact .alloc _ _ _
      have hD122 : w122.heap[w113.heap.size]? = some (.cells #[.int .i64 0, .int .u32 0, .int .i64 0, .int .i64 0, .int .i64 0, .string ⟨#[]⟩, .int .i64 0] T_zip_entry (0, 0)) := by rw [h122]; exact alloc_new _ _
      clear h122
      obtain ⟨w123, hrun123, hD123, f123⟩ := box_store (encT (x, off)) hD122 (by kernel_rfl) rfl (encT_one _)
      have hlD : ∀ q, l.a = some q → q.block < w113.heap.size := fun q hq => (o113.blk hq).2
      have hpD : ∀ q, lf.a = some q → q.block < w113.heap.size := fun q hq => (p113.blk hq).2
      have hlB' : ∀ q, l.a = some q → B + 1 ≤ q.block := fun q hq => (o113.blk hq).1
      have hpB : ∀ q, lf.a = some q → B + 1 ≤ q.block := fun q hq => (p113.blk hq).1
      generalize hDD : w113.heap.size = D at *
      have z123 := (z113.step0 f122).stepB f123 (by omega)
      have r123 := (r113.keep f122 (by simp)).keep f123 (by omega)
      have o123 := (o113.keep f122 (by simp)).keep f123 fun q hq e => by have := hlD q hq; omega
      have p123 := (p113.keep f122 (by simp)).keep f123 fun q hq e => by have := hpD q hq; omega
      refine ⟨w123, hrun123, fun w124 d124 => ?_⟩
      have f124 : Fr (fun _ => False) w123 w124 := .drew _ d124
      have hD124 := f124.keep hD123 (by simp)
      have z124 := z123.step0 f124
      have r124 := r123.keep f124 (by simp)
      have o124 := o123.keep f124 (by simp)
      have p124 := p123.keep f124 (by simp)
      clear z113 r113 o113 p113 z123 r123 o123 p123 f122 f123 hD122 hD123
      have hc : ∀ {w' : World}, w'.heap[D]? = some (.cells (encT (x, off)).toArray T_zip_entry (0, 0)) → ∀ {j : Nat} {v : Value}, (encT (x, off))[j]? = some v → w'.cell? ⟨D, j, none⟩ = some v := fun hf j v hv => by
        rw [cell_blk hf]; simpa using hv
      rw [outZ_at hxk] at r124
      obtain ⟨rest, hrest⟩ : ∃ r, outZ (es.drop (k + 1)) = r := ⟨_, rfl⟩
      rw [hrest] at r124
      have hlz : locZ x ++ rest = [80, 75, 3, 4] ++ (factZ x ++ (x.path.data.toList ++ (x.packed.data.toList ++ rest))) := by
        unfold locZ; simp only [List.append_assoc]
      rw [hlz] at r124
      refine ⟨fun w' => w' = w124, rfl, off, fun w' e => by rw [e]; exact hc hD124 (j := 6) rfl, off, fun w' e => by rw [e, cell_blk r124.1]; rfl, (must_spec (by simp) 3 w124).mono ?_⟩
      rintro e w131 ⟨rfl, rfl⟩
      refine ⟨rfl, (wantL_spec r124 rfl (by omega)).mono ?_⟩
      rintro e w133 ⟨rfl, r133, f133⟩
      have hD133 := f133.keep hD124 (by omega)
      refine ⟨rfl, fun w134 d134 => ?_⟩
      have f134 : Fr (fun _ => False) w133 w134 := .drew _ d134
      have hD134 := f134.keep hD133 (by simp)
      have hld76 : ∀ {w' : World}, w'.heap[D]? = some (.cells (encT (x, off)).toArray T_zip_entry (0, 0)) → (loadVar T_zip_head ⟨D, 0, none⟩).run Tryd.prog w' = .ok (.agg (headZ x).toArray) w' := fun h =>
        load_agg (agg_of (by kernel_rfl)) (by kernel_rfl) fun j v hv => by
          rw [show (⟨D, 0, none⟩ : Addr).add j = ⟨D, j, none⟩ by rw [add_lit, Nat.zero_add]]
          refine hc h ?_
          unfold encT
          rw [List.getElem?_append_left (List.getElem?_eq_some_iff.1 hv).1]
          exact hv
      refine ⟨fun w' => w'.heap[D]? = some (.cells (encT (x, off)).toArray T_zip_entry (0, 0)), hD134, _, _, _, _, _, fun w' h => hld76 h, (head_spec (r133.keep f134 (by simp)) hx2 hcr (by omega) (by omega) (by omega) (by omega)).mono ?_⟩
      rintro e w143 ⟨rfl, r143, f143⟩
      have hD143 := f143.keep hD134 (by omega)
      refine ⟨_, _, _, _, _, rfl, hD143, (must_spec (by simp) 3 w143).mono ?_⟩
      rintro e w150 ⟨rfl, rfl⟩
      refine ⟨rfl, x.path, hc hD143 (j := 5) rfl, (wantL_spec r143 rfl (by omega)).mono ?_⟩
      rintro e w153 ⟨rfl, r153, f153⟩
      have hD153 := f153.keep hD143 (by omega)
      refine ⟨rfl, x.packed.size, hc hD153 (j := 2) rfl, (take_spec r153 (bs_len _) (by omega)).mono ?_⟩
      rintro e w156 ⟨rfl, r156, f156⟩
      have hD156 := f156.keep hD153 (by omega)
      have e2 : IntKind.i64.wrap ((totalF ((es.map filZ).take k) : Int) + (x.data.size : Int)) = (totalF ((es.map filZ).take (k + 1)) : Int) := by rw [wrap_i64 (by omega) (by omega)]; omega
      refine ⟨_, rfl, x.data.size, hc hD156 (j := 3) rfl, (must_spec (by rw [e2]; exact decide_eq_true (by omega)) 2 w156).mono ?_⟩
      rintro e w160 ⟨rfl, rfl⟩
      have f124_156 : Fr (· = B) w131 w160 := (((f133.trans' (f134.mono fun _ _ h => h.elim)).trans' f143).trans' f153).trans' f156
      have z160 := z124.stepB f124_156 (by omega)
      have o160 := o124.keep f124_156 fun q hq e => by have := hlB' q hq; omega
      have p160 := p124.keep f124_156 fun q hq e => by have := hpB q hq; omega
      refine ⟨rfl, fun w161 d161 => ?_⟩
      have f161 : Fr (fun _ => False) w160 w161 := .drew _ d161
      have z161 := z160.step0 f161
      have hD161 := f161.keep hD156 (by simp)
      refine ⟨fun w' => ZSt w lf w' ∧ w'.heap[D]? = some (.cells (encT (x, off)).toArray T_zip_entry (0, 0)), ⟨z161, hD161⟩, lf, fun w' h => by rw [cell_blk h.1.A]; rfl, x.path, fun w' h => hc h.2 (j := 5) rfl, _, _, _, _, _, _, _, fun w' h => box_load h.2 (by kernel_rfl) (by kernel_rfl), ?_⟩
      rw [bs_self]
      refine (unpack_spec x off (hg.unp x hxm) w161).mono ?_
      rintro e w176 ⟨rfl, f176⟩
      have z176 := z161.step0 f176
      have hD176 := f176.keep hD161 (by simp)
      refine ⟨_, rfl, ⟨z176, hD176⟩, fun w178 h178 => ?_⟩
      have f178 : Fr (fun _ => False) w176 w178 := by rw [h178]; exact .alloc _ _ _
      have o176 := (o160.keep f161 (by simp)).keep f176 (by simp)
      have p176 := (p160.keep f161 (by simp)).keep f176 (by simp)
      have r176 := (r156.keep f161 (by simp)).keep f176 (by simp)
      have hD_w := lt_blk hD176
      obtain ⟨w179, l180, hr179, p179, f179, s179⟩ := append_oneK elF p176 (x := filZ x) (by rw [List.length_take]; unfold maxLen; omega) (by rw [List.length_take]; omega) (by omega) h178
      have hnD : ∀ q, At lf q → B + 1 ≤ q ∧ q < D := fun q ⟨y, hy, e⟩ => by have h1 := hpB y hy; have h2 := hpD y hy; omega
      have hr' : ∃ w'', (Builtin.append_ #[T_S_api_File, T_S_api_File] T_S_api_File #[.slice lf.a lf.len lf.cap, .slice (some ⟨w176.heap.size, 0, none⟩) 1 1]).run Tryd.prog w178 = .ok (.slice l180.a l180.len l180.cap) w'' := ⟨_, hr179⟩
      refine ⟨⟨z176.step0 f178, f178.keep hD176 (by simp)⟩, w179, l180, hr179, ⟨z176.step f179 fun q _ hq => by have := hnD q hq; omega, f179.keep hD176 fun hq => by have := hnD _ hq; omega⟩, ?_⟩
      have z179 := z176.step f179 fun q _ hq => by have := hnD q hq; omega
      refine ⟨wr_blk z179.A (Nat.lt_succ_self 0), fun w181 h181 => ?_⟩
      have hAB : w.heap.size + 2 = B := hBB
      have f181 : Fr (· = w.heap.size) w179 w181 := by rw [h181]; exact Fr.set (· = w.heap.size) w179 (a := ⟨w.heap.size, 0, none⟩) _ rfl
      have z181 : ZSt w l180 w181 := ⟨z179.fr.trans f181 fun q hq e => by omega, by rw [h181, set_blk z179.A]; rfl, f181.keep z179.E (by omega)⟩
      have hl180 : ∀ q, l180.a = some q → (∃ y, lf.a = some y ∧ y.block = q.block) ∨ w176.heap.size ≤ q.block := fun q hq => by
        rcases s179 q hq with ⟨y, hy, e⟩ | h
        · exact .inl ⟨y, hy, e⟩
        · exact .inr h
      have e1 : IntKind.i64.wrap ((k : Int) + 1) = ((k + 1 : Nat) : Int) := by rw [wrap_i64 (by omega) (by omega)]; omega
      have hyt : (es.map filZ).take (k + 1) = (es.map filZ).take k ++ [filZ x] := by rw [List.take_add_one, hyk]; rfl
      have hpos : (outZ (es.take (k + 1))).length = off + [(80 : UInt8), 75, 3, 4].length + 26 + x.path.data.toList.length + x.packed.size := by
        rw [outZ_len_take hxk, hoff, locZ_len, bs_len]; simp only [List.length_cons, List.length_nil]; omega
      rw [e1, e2]
      refine ⟨⟨k + 1, l180, rfl, by omega, rfl, z181, ?_, (o176.keep f179 fun q hq ⟨y, hy, e⟩ => hdis q y hq hy e).keep f181 fun q hq e => by have := hlB' q hq; omega, by rw [hyt]; exact p179.keep f181 fun q hq e => by have := (p179.blk hq).1; omega, fun p q hp hq => ?_⟩, by dsimp only; omega⟩
      · rw [hrest, hpos]
        exact (r176.keep f179 fun hq => by have := hnD _ hq; omega).keep f181 (by omega)
      · rcases hl180 q hq with ⟨y, hy, e⟩ | h
        · rw [← e]; exact hdis p y hp hy
        · have := hlD p hp; omega
    · have hge := of_decide_eq_false hge
      have hk' : k = es.length := by omega
      subst hk'
      rw [List.drop_length] at r113
      rw [List.take_of_length_le (by rw [List.length_map]; exact Nat.le_refl _)] at p113
      rw [List.take_length] at r113
      have hyl : (es.map filZ).length = lf.len := p113.1
      refine ⟨(outZ es).length, by rw [cell_blk r113.1]; rfl, (must_spec (by simp) 3 w113).mono ?_⟩
      rintro e w184 ⟨rfl, rfl⟩
      refine ⟨rfl, lf, by rw [cell_blk z113.A]; rfl, (zcheck_spec (c := lf.cap) (p113.reads elF.len) hyl (by rw [← hyl, List.length_map]; omega) (fun y hy => ?_) (by omega)).mono ?_⟩
      · obtain ⟨z, hz, rfl⟩ := List.mem_map.1 hy
        have := (hx z hz).1
        have h2 : (filZ z).path = z.path := rfl
        rw [h2]; omega
      rintro e w187 ⟨rfl, f187⟩
      rw [hg.chk]
      have z187 := z113.step0 f187
      refine ⟨0, rfl, fun h => absurd h (by decide), fun _ => ⟨lf, by rw [cell_blk z187.A]; rfl, wr_blk z187.A (Nat.lt_succ_self 0), fun w198 h198 => ?_⟩⟩
      have f198 : Fr (· = w.heap.size) w187 w198 := by rw [h198]; exact Fr.set (· = w.heap.size) w187 (a := ⟨w.heap.size, 0, none⟩) _ rfl
      have z198 : ZSt w lf w198 := ⟨z187.fr.trans f198 fun q hq e => by omega, by rw [h198, set_blk z187.A]; rfl, f198.keep z187.E (by omega)⟩
      refine ⟨wr_blk z198.E (Nat.lt_succ_self 0), fun w199 h199 => ?_⟩
      have f199 : Fr (· = w.heap.size + 1) w198 w199 := by rw [h199]; exact Fr.set (· = w.heap.size + 1) w198 (a := ⟨w.heap.size + 1, 0, none⟩) _ rfl
      have z199 : ZSt w lf w199 := ⟨z198.fr.trans f199 fun q hq e => by omega, f199.keep z198.A (by omega), by rw [h199, set_blk z198.E]; rfl⟩
      refine (catch_idle _ _ w199).mono ?_
      rintro e u w202 ⟨rfl, rfl, rfl⟩
      refine ⟨⟨_, rfl⟩, rfl, lf, load_one (by kernel_rfl) (by rw [cell_blk z199.A]; rfl), 0, load_one (by kernel_rfl) (by rw [cell_blk z199.E]; rfl), lf, rfl, ?_, z199.fr.mono fun q hq h => by omega⟩
      exact (((p113.keep f187 (by simp)).keep f198 fun q hq e => by have := (p113.blk hq).1; omega).keep f199 fun q hq e => by have := (p113.blk hq).1; omega).mono (by omega)
end Go.Proofs.YtlohadencnpdgaaDoor

/- Plain facts on the bytes of an archive. No program in sight. -/
set_option linter.unusedVariables false
namespace Go.Proofs.YtlohadencnpdgaaDoor
open Go Vc SumM Go.Proofs

theorem outZ_snoc (ys : List EntZ) (f : EntZ) : outZ (ys ++ [f]) = outZ ys ++ locZ f := by unfold outZ; rw [List.flatMap_append]; simp
theorem idxZ_snoc (f : EntZ) : ∀ (off : Nat) (ys : List EntZ), idxZ off (ys ++ [f]) = idxZ off ys ++ cenZ f (off + (outZ ys).length)
  | off, [] => by simp [idxZ, outZ]
  | off, y :: r => by
    rw [List.cons_append, idxZ, idxZ, idxZ_snoc f _ r]
    unfold outZ
    rw [List.flatMap_cons, List.length_append, ← List.append_assoc, Nat.add_assoc]
theorem little10_0 : littleB 10 0 = littleB 2 0 ++ (littleB 2 0 ++ (littleB 2 0 ++ littleB 4 0)) := rfl
theorem cenZ_len (x : EntZ) (off : Nat) : (cenZ x off).length = 46 + x.path.size := by
  unfold cenZ
  simp only [List.length_append, factZ_len, littleB_length, bs_len, List.length_cons, List.length_nil]; omega
theorem idxZ_take_le (es : List EntZ) (k : Nat) : (idxZ 0 (es.take k)).length ≤ (idxZ 0 es).length := by
  have key : ∀ (zs : List EntZ) (off : Nat) (k : Nat), (idxZ off (zs.take k)).length ≤ (idxZ off zs).length := by
    intro zs
    induction zs with
    | nil => intro off k; simp [idxZ]
    | cons z r ih =>
      intro off k
      cases k with
      | zero => simp [idxZ]
      | succ k =>
        rw [List.take_succ_cons, idxZ, idxZ, List.length_append, List.length_append]
        have := ih (off + (locZ z).length) k
        omega
  exact key es 0 k
theorem outZ_take_le (es : List EntZ) (k : Nat) : (outZ (es.take k)).length ≤ (outZ es).length := by
  have := congrArg List.length (outZ_drop es k)
  rw [List.length_append] at this
  omega
end Go.Proofs.YtlohadencnpdgaaDoor

/- Formulas of 1 Go functions of this seat (written by a program of the author's, vcgen.py), and that each is enough for the call. No condition. -/
set_option linter.unusedVariables false
namespace Go.Proofs.YtlohadencnpdgaaDoor
open Go Vc Go.Proofs
set_option maxRecDepth 100000
/-- zip.Read#x -/
def vc_zip_Read_x (x0 : ByteArray) (w : World) (R : Value → World → Prop) : Prop :=
  ∀ w1 : World,
  (w1 = World.alloc w (Obj.cells (Array.mk [Value.slice none 0 0]) 22) →
    ∀ w2 : World,
    (w2 = World.alloc w1 (Obj.cells (Array.mk [Value.int IntKind.i64 0]) 24) →
      (((decide ((↑(ByteArray.size x0) : Int) > 2097152) = true →
         (Wr w2 (Addr.mk (Array.size (World.heap w)) 0 none) ∧
          ∀ w3 : World,
          (w3 = World.setCell w2 (Addr.mk (Array.size (World.heap w)) 0 none) (Value.slice none 0 0) →
            (Wr w3 (Addr.mk (Array.size (World.heap w1)) 0 none) ∧
             ∀ w4 : World,
             (w4 = World.setCell w3 (Addr.mk (Array.size (World.heap w1)) 0 none) (Value.int IntKind.i64 2) →
               ∃ l5 : Sl, (Sem.run Tryd.prog (loadVar 22 (Addr.mk (Array.size (World.heap w)) 0 none)) w4 = Result.ok (Value.slice l5.1 l5.2 l5.3) w4 ∧
                ∃ n6 : Int, (Sem.run Tryd.prog (loadVar 24 (Addr.mk (Array.size (World.heap w1)) 0 none)) w4 = Result.ok (Value.int IntKind.i64 n6) w4 ∧
                 R (Value.tuple (Array.mk [Value.slice l5.1 l5.2 l5.3, Value.int IntKind.i64 n6])) w4)))))))) ∧
       (decide ((↑(ByteArray.size x0) : Int) > 2097152) = false →
         (((decide ((↑(ByteArray.size x0) : Int) < 22) = true →
            (Wr w2 (Addr.mk (Array.size (World.heap w)) 0 none) ∧
             ∀ w7 : World,
             (w7 = World.setCell w2 (Addr.mk (Array.size (World.heap w)) 0 none) (Value.slice none 0 0) →
               (Wr w7 (Addr.mk (Array.size (World.heap w1)) 0 none) ∧
                ∀ w8 : World,
                (w8 = World.setCell w7 (Addr.mk (Array.size (World.heap w1)) 0 none) (Value.int IntKind.i64 6) →
                  ∃ l9 : Sl, (Sem.run Tryd.prog (loadVar 22 (Addr.mk (Array.size (World.heap w)) 0 none)) w8 = Result.ok (Value.slice l9.1 l9.2 l9.3) w8 ∧
                   ∃ n10 : Int, (Sem.run Tryd.prog (loadVar 24 (Addr.mk (Array.size (World.heap w1)) 0 none)) w8 = Result.ok (Value.int IntKind.i64 n10) w8 ∧
                    R (Value.tuple (Array.mk [Value.slice l9.1 l9.2 l9.3, Value.int IntKind.i64 n10])) w8)))))))) ∧
          (decide ((↑(ByteArray.size x0) : Int) < 22) = false →
            ∀ w11 : World,
            (w11 = World.alloc w2 (Obj.cells (Array.mk [Value.string x0, Value.int IntKind.i64 (IntKind.wrap IntKind.i64 ((↑(ByteArray.size x0) : Int) - 22))]) 40) →
              Calls Tryd.prog (14 : Nat) (Array.mk [Value.int IntKind.i64 (0 : Int)]) (w11) (fun e12 w13 =>
                ((∃ s14 : ByteArray, (e12 = Ending.returned (Value.string s14) ∧
                  (ByteArray.size (ByteArray.mk (Array.mk [80, 75, 5, 6])) + ByteArray.size s14 ≤ 9223372036854775807 ∧
                   Calls Tryd.prog (14 : Nat) (Array.mk [Value.int IntKind.i64 (0 : Int)]) (w13) (fun e15 w16 =>
                     ((∃ s17 : ByteArray, (e15 = Ending.returned (Value.string s17) ∧
                       (ByteArray.size (ByteArray.mk (Array.mk [80, 75, 5, 6]) ++ s14) + ByteArray.size s17 ≤ 9223372036854775807 ∧
                        Calls Tryd.prog (13 : Nat) (Array.mk [Value.pointer (some (Addr.mk (Array.size (World.heap w2)) 0 none)), Value.string (ByteArray.mk (Array.mk [80, 75, 5, 6]) ++ s14 ++ s17)]) (w16) (fun e18 w19 =>
                          (((e18 = Ending.returned (Value.tuple (Array.mk [])) ∧
                            Calls Tryd.prog (15 : Nat) (Array.mk [Value.pointer (some (Addr.mk (Array.size (World.heap w2)) 0 none)), Value.int IntKind.i64 2]) (w19) (fun e20 w21 =>
                              ((∃ n22 : Int, (e20 = Ending.returned (Value.int IntKind.i64 n22) ∧
                                Calls Tryd.prog (15 : Nat) (Array.mk [Value.pointer (some (Addr.mk (Array.size (World.heap w2)) 0 none)), Value.int IntKind.i64 2]) (w21) (fun e23 w24 =>
                                  ((∃ n25 : Int, (e23 = Ending.returned (Value.int IntKind.i64 n25) ∧
                                    Calls Tryd.prog (15 : Nat) (Array.mk [Value.pointer (some (Addr.mk (Array.size (World.heap w2)) 0 none)), Value.int IntKind.i64 4]) (w24) (fun e26 w27 =>
                                      ((∃ n28 : Int, (e26 = Ending.returned (Value.int IntKind.i64 n28) ∧
                                        Calls Tryd.prog (15 : Nat) (Array.mk [Value.pointer (some (Addr.mk (Array.size (World.heap w2)) 0 none)), Value.int IntKind.i64 4]) (w27) (fun e29 w30 =>
                                          ((∃ n31 : Int, (e29 = Ending.returned (Value.int IntKind.i64 n31) ∧
                                            Calls Tryd.prog (14 : Nat) (Array.mk [Value.int IntKind.i64 (0 : Int)]) (w30) (fun e32 w33 =>
                                              ((∃ s34 : ByteArray, (e32 = Ending.returned (Value.string s34) ∧
                                                Calls Tryd.prog (13 : Nat) (Array.mk [Value.pointer (some (Addr.mk (Array.size (World.heap w2)) 0 none)), Value.string s34]) (w33) (fun e35 w36 =>
                                                  (((e35 = Ending.returned (Value.tuple (Array.mk [])) ∧
                                                    ∃ I37 : World → Prop, (((((n22 == n25) = true →
                                                        Calls Tryd.prog (16 : Nat) (Array.mk [Value.bool (IntKind.wrap IntKind.i64 (n31 + n28) == IntKind.wrap IntKind.i64 ((↑(ByteArray.size x0) : Int) - 22)), Value.int IntKind.i64 3]) (w36) (fun e38 w39 =>
                                                          (((e38 = Ending.returned (Value.tuple (Array.mk [])) ∧
                                                            I37 w39)) ∨
                                                           (∃ z40 : List PanicEntry, (e38 = Ending.panicked z40 ∧
                                                            CallsD Tryd.prog 12 (Array.mk [Value.pointer (some (Addr.mk (Array.size (World.heap w)) 0 none)), Value.pointer (some (Addr.mk (Array.size (World.heap w1)) 0 none))]) (FrameMode.panicking z40) (w39) (fun e41 z42 w43 =>
                                                              ((∃ v44 : Value, e41 = Ending.returned v44) ∧
                                                               (settle z42 = FrameMode.returning ∧
                                                                ∃ l45 : Sl, (Sem.run Tryd.prog (loadVar 22 (Addr.mk (Array.size (World.heap w)) 0 none)) w43 = Result.ok (Value.slice l45.1 l45.2 l45.3) w43 ∧
                                                                 ∃ n46 : Int, (Sem.run Tryd.prog (loadVar 24 (Addr.mk (Array.size (World.heap w1)) 0 none)) w43 = Result.ok (Value.int IntKind.i64 n46) w43 ∧
                                                                  R (Value.tuple (Array.mk [Value.slice l45.1 l45.2 l45.3, Value.int IntKind.i64 n46])) w43))))))))))) ∧
                                                      ((n22 == n25) = false →
                                                        Calls Tryd.prog (16 : Nat) (Array.mk [Value.bool false, Value.int IntKind.i64 (3 : Int)]) (w36) (fun e47 w48 =>
                                                          (((e47 = Ending.returned (Value.tuple (Array.mk [])) ∧
                                                            I37 w48)) ∨
                                                           (∃ z49 : List PanicEntry, (e47 = Ending.panicked z49 ∧
                                                            CallsD Tryd.prog 12 (Array.mk [Value.pointer (some (Addr.mk (Array.size (World.heap w)) 0 none)), Value.pointer (some (Addr.mk (Array.size (World.heap w1)) 0 none))]) (FrameMode.panicking z49) (w48) (fun e50 z51 w52 =>
                                                              ((∃ v53 : Value, e50 = Ending.returned v53) ∧
                                                               (settle z51 = FrameMode.returning ∧
                                                                ∃ l54 : Sl, (Sem.run Tryd.prog (loadVar 22 (Addr.mk (Array.size (World.heap w)) 0 none)) w52 = Result.ok (Value.slice l54.1 l54.2 l54.3) w52 ∧
                                                                 ∃ n55 : Int, (Sem.run Tryd.prog (loadVar 24 (Addr.mk (Array.size (World.heap w1)) 0 none)) w52 = Result.ok (Value.int IntKind.i64 n55) w52 ∧
                                                                  R (Value.tuple (Array.mk [Value.slice l54.1 l54.2 l54.3, Value.int IntKind.i64 n55])) w52))))))))))) ∧
                                                     ∀ w56 : World,
                                                     (I37 w56 →
                                                       Calls Tryd.prog (16 : Nat) (Array.mk [Value.bool (decide (n22 ≤ 600)), Value.int IntKind.i64 2]) (w56) (fun e57 w58 =>
                                                         (((e57 = Ending.returned (Value.tuple (Array.mk [])) ∧
                                                           ((0 ≤ IntKind.wrap IntKind.i64 ((↑(ByteArray.size x0) : Int) - 22) ∧
                                                             IntKind.wrap IntKind.i64 ((↑(ByteArray.size x0) : Int) - 22) ≤ (↑(ByteArray.size x0) : Int)) ∧
                                                            (Wr w58 (Addr.mk (Array.size (World.heap w2)) 0 none) ∧
                                                             ∀ w59 : World,
                                                             (w59 = World.setCell w58 (Addr.mk (Array.size (World.heap w2)) 0 none) (Value.string (ByteArray.extract x0 0 (Int.toNat (IntKind.wrap IntKind.i64 ((↑(ByteArray.size x0) : Int) - 22))))) →
                                                               (Wr w59 (Addr.mk (Array.size (World.heap w2)) 1 none) ∧
                                                                ∀ w60 : World,
                                                                (w60 = World.setCell w59 (Addr.mk (Array.size (World.heap w2)) 1 none) (Value.int IntKind.i64 n31) →
                                                                  ∃ I61 : Sl → Int → World → Prop, ∃ I62 : Sl → Int → World → Nat, (I61 (Sl.mk none 0 0) 0 w60 ∧
                                                                   ∀ l63 : Sl,
                                                                   ∀ n64 : Int,
                                                                   ∀ w65 : World,
                                                                   (I61 l63 n64 w65 →
                                                                     (((decide (n64 < n22) = true →
                                                                        Calls Tryd.prog (14 : Nat) (Array.mk [Value.int IntKind.i64 (20 : Int)]) (w65) (fun e66 w67 =>
                                                                          ((∃ s68 : ByteArray, (e66 = Ending.returned (Value.string s68) ∧
                                                                            (ByteArray.size (ByteArray.mk (Array.mk [80, 75, 1, 2])) + ByteArray.size s68 ≤ 9223372036854775807 ∧
                                                                             Calls Tryd.prog (13 : Nat) (Array.mk [Value.pointer (some (Addr.mk (Array.size (World.heap w2)) 0 none)), Value.string (ByteArray.mk (Array.mk [80, 75, 1, 2]) ++ s68)]) (w67) (fun e69 w70 =>
                                                                               (((e69 = Ending.returned (Value.tuple (Array.mk [])) ∧
                                                                                 Calls Tryd.prog (17 : Nat) (Array.mk [Value.pointer (some (Addr.mk (Array.size (World.heap w2)) 0 none))]) (w70) (fun e71 w72 =>
                                                                                   ((∃ n73 : Int, ∃ n74 : Int, ∃ n75 : Int, ∃ n76 : Int, ∃ n77 : Int, (e71 = Ending.returned (Value.agg (Array.mk [Value.int IntKind.i64 n73, Value.int IntKind.u32 n74, Value.int IntKind.i64 n75, Value.int IntKind.i64 n76, Value.int IntKind.i64 n77])) ∧
                                                                                     ∀ w78 : World,
                                                                                     (w78 = World.alloc w72 (Obj.cells (Array.mk [Value.int IntKind.i64 0, Value.int IntKind.u32 0, Value.int IntKind.i64 0, Value.int IntKind.i64 0, Value.int IntKind.i64 0, Value.string (ByteArray.mk (Array.mk [])), Value.int IntKind.i64 0]) 51) →
                                                                                       ∃ w79 : World, (Sem.run Tryd.prog (storeVar 51 (Addr.mk (Array.size (World.heap w72)) 0 none) (Value.agg (Array.mk [Value.int IntKind.i64 n73, Value.int IntKind.u32 n74, Value.int IntKind.i64 n75, Value.int IntKind.i64 n76, Value.int IntKind.i64 n77, Value.string (ByteArray.mk (Array.mk [])), Value.int IntKind.i64 0]))) w78 = Result.ok PUnit.unit w79 ∧
                                                                                        Calls Tryd.prog (14 : Nat) (Array.mk [Value.int IntKind.i64 (0 : Int)]) (w79) (fun e80 w81 =>
                                                                                          ((∃ s82 : ByteArray, (e80 = Ending.returned (Value.string s82) ∧
                                                                                            Calls Tryd.prog (14 : Nat) (Array.mk [Value.int IntKind.i64 (0 : Int)]) (w81) (fun e83 w84 =>
                                                                                              ((∃ s85 : ByteArray, (e83 = Ending.returned (Value.string s85) ∧
                                                                                                (ByteArray.size s82 + ByteArray.size s85 ≤ 9223372036854775807 ∧
                                                                                                 Calls Tryd.prog (14 : Nat) (Array.mk [Value.int IntKind.i64 (0 : Int)]) (w84) (fun e86 w87 =>
                                                                                                   ((∃ s88 : ByteArray, (e86 = Ending.returned (Value.string s88) ∧
                                                                                                     (ByteArray.size (s82 ++ s85) + ByteArray.size s88 ≤ 9223372036854775807 ∧
                                                                                                      Calls Tryd.prog (18 : Nat) (Array.mk [Value.int IntKind.i64 (0 : Int)]) (w87) (fun e89 w90 =>
                                                                                                        ((∃ s91 : ByteArray, (e89 = Ending.returned (Value.string s91) ∧
                                                                                                          (ByteArray.size (s82 ++ s85 ++ s88) + ByteArray.size s91 ≤ 9223372036854775807 ∧
                                                                                                           Calls Tryd.prog (13 : Nat) (Array.mk [Value.pointer (some (Addr.mk (Array.size (World.heap w2)) 0 none)), Value.string (s82 ++ s85 ++ s88 ++ s91)]) (w90) (fun e92 w93 =>
                                                                                                             (((e92 = Ending.returned (Value.tuple (Array.mk [])) ∧
                                                                                                               Calls Tryd.prog (15 : Nat) (Array.mk [Value.pointer (some (Addr.mk (Array.size (World.heap w2)) 0 none)), Value.int IntKind.i64 4]) (w93) (fun e94 w95 =>
                                                                                                                 ((∃ n96 : Int, (e94 = Ending.returned (Value.int IntKind.i64 n96) ∧
                                                                                                                   (Wr w95 (Addr.mk (Array.size (World.heap w72)) 6 none) ∧
                                                                                                                    ∀ w97 : World,
                                                                                                                    (w97 = World.setCell w95 (Addr.mk (Array.size (World.heap w72)) 6 none) (Value.int IntKind.i64 n96) →
                                                                                                                      ∃ n98 : Int, (World.cell? w97 (Addr.mk (Array.size (World.heap w72)) 4 none) = some (Value.int IntKind.i64 n98) ∧
                                                                                                                       Calls Tryd.prog (19 : Nat) (Array.mk [Value.pointer (some (Addr.mk (Array.size (World.heap w2)) 0 none)), Value.int IntKind.i64 n98]) (w97) (fun e99 w100 =>
                                                                                                                         ((∃ s101 : ByteArray, (e99 = Ending.returned (Value.string s101) ∧
                                                                                                                           (Wr w100 (Addr.mk (Array.size (World.heap w72)) 5 none) ∧
                                                                                                                            ∀ w102 : World,
                                                                                                                            (w102 = World.setCell w100 (Addr.mk (Array.size (World.heap w72)) 5 none) (Value.string s101) →
                                                                                                                              ∃ n103 : Int, ∃ n104 : Int, ∃ n105 : Int, ∃ n106 : Int, ∃ n107 : Int, ∃ s108 : ByteArray, ∃ n109 : Int, (Sem.run Tryd.prog (loadVar 51 (Addr.mk (Array.size (World.heap w72)) 0 none)) w102 = Result.ok (Value.agg (Array.mk [Value.int IntKind.i64 n103, Value.int IntKind.u32 n104, Value.int IntKind.i64 n105, Value.int IntKind.i64 n106, Value.int IntKind.i64 n107, Value.string s108, Value.int IntKind.i64 n109])) w102 ∧
                                                                                                                               ∀ w110 : World,
                                                                                                                               (w110 = World.alloc w102 (Obj.cells (Array.mk [Value.int IntKind.i64 n103, Value.int IntKind.u32 n104, Value.int IntKind.i64 n105, Value.int IntKind.i64 n106, Value.int IntKind.i64 n107, Value.string s108, Value.int IntKind.i64 n109]) 51) →
                                                                                                                                 ∃ w111 : World, ∃ l112 : Sl, (Sem.run Tryd.prog (Builtin.append_ (Array.mk [45, 45]) 45 (Array.mk [Value.slice l63.1 l63.2 l63.3, Value.slice (some (Addr.mk (Array.size (World.heap w102)) 0 none)) 1 1])) w110 = Result.ok (Value.slice l112.1 l112.2 l112.3) w111 ∧
                                                                                                                                  (I61 (Sl.mk l112.1 l112.2 l112.3) (IntKind.wrap IntKind.i64 (n64 + 1)) w111 ∧
                                                                                                                                   I62 (Sl.mk l112.1 l112.2 l112.3) (IntKind.wrap IntKind.i64 (n64 + 1)) w111 < I62 l63 n64 w65)))))))) ∨
                                                                                                                          (∃ z113 : List PanicEntry, (e99 = Ending.panicked z113 ∧
                                                                                                                           CallsD Tryd.prog 12 (Array.mk [Value.pointer (some (Addr.mk (Array.size (World.heap w)) 0 none)), Value.pointer (some (Addr.mk (Array.size (World.heap w1)) 0 none))]) (FrameMode.panicking z113) (w100) (fun e114 z115 w116 =>
                                                                                                                             ((∃ v117 : Value, e114 = Ending.returned v117) ∧
                                                                                                                              (settle z115 = FrameMode.returning ∧
                                                                                                                               ∃ l118 : Sl, (Sem.run Tryd.prog (loadVar 22 (Addr.mk (Array.size (World.heap w)) 0 none)) w116 = Result.ok (Value.slice l118.1 l118.2 l118.3) w116 ∧
                                                                                                                                ∃ n119 : Int, (Sem.run Tryd.prog (loadVar 24 (Addr.mk (Array.size (World.heap w1)) 0 none)) w116 = Result.ok (Value.int IntKind.i64 n119) w116 ∧
                                                                                                                                 R (Value.tuple (Array.mk [Value.slice l118.1 l118.2 l118.3, Value.int IntKind.i64 n119])) w116)))))))))))))) ∨
                                                                                                                  (∃ z120 : List PanicEntry, (e94 = Ending.panicked z120 ∧
                                                                                                                   CallsD Tryd.prog 12 (Array.mk [Value.pointer (some (Addr.mk (Array.size (World.heap w)) 0 none)), Value.pointer (some (Addr.mk (Array.size (World.heap w1)) 0 none))]) (FrameMode.panicking z120) (w95) (fun e121 z122 w123 =>
                                                                                                                     ((∃ v124 : Value, e121 = Ending.returned v124) ∧
                                                                                                                      (settle z122 = FrameMode.returning ∧
                                                                                                                       ∃ l125 : Sl, (Sem.run Tryd.prog (loadVar 22 (Addr.mk (Array.size (World.heap w)) 0 none)) w123 = Result.ok (Value.slice l125.1 l125.2 l125.3) w123 ∧
                                                                                                                        ∃ n126 : Int, (Sem.run Tryd.prog (loadVar 24 (Addr.mk (Array.size (World.heap w1)) 0 none)) w123 = Result.ok (Value.int IntKind.i64 n126) w123 ∧
                                                                                                                         R (Value.tuple (Array.mk [Value.slice l125.1 l125.2 l125.3, Value.int IntKind.i64 n126])) w123))))))))))) ∨
                                                                                                              (∃ z127 : List PanicEntry, (e92 = Ending.panicked z127 ∧
                                                                                                               CallsD Tryd.prog 12 (Array.mk [Value.pointer (some (Addr.mk (Array.size (World.heap w)) 0 none)), Value.pointer (some (Addr.mk (Array.size (World.heap w1)) 0 none))]) (FrameMode.panicking z127) (w93) (fun e128 z129 w130 =>
                                                                                                                 ((∃ v131 : Value, e128 = Ending.returned v131) ∧
                                                                                                                  (settle z129 = FrameMode.returning ∧
                                                                                                                   ∃ l132 : Sl, (Sem.run Tryd.prog (loadVar 22 (Addr.mk (Array.size (World.heap w)) 0 none)) w130 = Result.ok (Value.slice l132.1 l132.2 l132.3) w130 ∧
                                                                                                                    ∃ n133 : Int, (Sem.run Tryd.prog (loadVar 24 (Addr.mk (Array.size (World.heap w1)) 0 none)) w130 = Result.ok (Value.int IntKind.i64 n133) w130 ∧
                                                                                                                     R (Value.tuple (Array.mk [Value.slice l132.1 l132.2 l132.3, Value.int IntKind.i64 n133])) w130)))))))))))) ∨
                                                                                                         (∃ z134 : List PanicEntry, (e89 = Ending.panicked z134 ∧
                                                                                                          CallsD Tryd.prog 12 (Array.mk [Value.pointer (some (Addr.mk (Array.size (World.heap w)) 0 none)), Value.pointer (some (Addr.mk (Array.size (World.heap w1)) 0 none))]) (FrameMode.panicking z134) (w90) (fun e135 z136 w137 =>
                                                                                                            ((∃ v138 : Value, e135 = Ending.returned v138) ∧
                                                                                                             (settle z136 = FrameMode.returning ∧
                                                                                                              ∃ l139 : Sl, (Sem.run Tryd.prog (loadVar 22 (Addr.mk (Array.size (World.heap w)) 0 none)) w137 = Result.ok (Value.slice l139.1 l139.2 l139.3) w137 ∧
                                                                                                               ∃ n140 : Int, (Sem.run Tryd.prog (loadVar 24 (Addr.mk (Array.size (World.heap w1)) 0 none)) w137 = Result.ok (Value.int IntKind.i64 n140) w137 ∧
                                                                                                                R (Value.tuple (Array.mk [Value.slice l139.1 l139.2 l139.3, Value.int IntKind.i64 n140])) w137)))))))))))) ∨
                                                                                                    (∃ z141 : List PanicEntry, (e86 = Ending.panicked z141 ∧
                                                                                                     CallsD Tryd.prog 12 (Array.mk [Value.pointer (some (Addr.mk (Array.size (World.heap w)) 0 none)), Value.pointer (some (Addr.mk (Array.size (World.heap w1)) 0 none))]) (FrameMode.panicking z141) (w87) (fun e142 z143 w144 =>
                                                                                                       ((∃ v145 : Value, e142 = Ending.returned v145) ∧
                                                                                                        (settle z143 = FrameMode.returning ∧
                                                                                                         ∃ l146 : Sl, (Sem.run Tryd.prog (loadVar 22 (Addr.mk (Array.size (World.heap w)) 0 none)) w144 = Result.ok (Value.slice l146.1 l146.2 l146.3) w144 ∧
                                                                                                          ∃ n147 : Int, (Sem.run Tryd.prog (loadVar 24 (Addr.mk (Array.size (World.heap w1)) 0 none)) w144 = Result.ok (Value.int IntKind.i64 n147) w144 ∧
                                                                                                           R (Value.tuple (Array.mk [Value.slice l146.1 l146.2 l146.3, Value.int IntKind.i64 n147])) w144)))))))))))) ∨
                                                                                               (∃ z148 : List PanicEntry, (e83 = Ending.panicked z148 ∧
                                                                                                CallsD Tryd.prog 12 (Array.mk [Value.pointer (some (Addr.mk (Array.size (World.heap w)) 0 none)), Value.pointer (some (Addr.mk (Array.size (World.heap w1)) 0 none))]) (FrameMode.panicking z148) (w84) (fun e149 z150 w151 =>
                                                                                                  ((∃ v152 : Value, e149 = Ending.returned v152) ∧
                                                                                                   (settle z150 = FrameMode.returning ∧
                                                                                                    ∃ l153 : Sl, (Sem.run Tryd.prog (loadVar 22 (Addr.mk (Array.size (World.heap w)) 0 none)) w151 = Result.ok (Value.slice l153.1 l153.2 l153.3) w151 ∧
                                                                                                     ∃ n154 : Int, (Sem.run Tryd.prog (loadVar 24 (Addr.mk (Array.size (World.heap w1)) 0 none)) w151 = Result.ok (Value.int IntKind.i64 n154) w151 ∧
                                                                                                      R (Value.tuple (Array.mk [Value.slice l153.1 l153.2 l153.3, Value.int IntKind.i64 n154])) w151))))))))))) ∨
                                                                                           (∃ z155 : List PanicEntry, (e80 = Ending.panicked z155 ∧
                                                                                            CallsD Tryd.prog 12 (Array.mk [Value.pointer (some (Addr.mk (Array.size (World.heap w)) 0 none)), Value.pointer (some (Addr.mk (Array.size (World.heap w1)) 0 none))]) (FrameMode.panicking z155) (w81) (fun e156 z157 w158 =>
                                                                                              ((∃ v159 : Value, e156 = Ending.returned v159) ∧
                                                                                               (settle z157 = FrameMode.returning ∧
                                                                                                ∃ l160 : Sl, (Sem.run Tryd.prog (loadVar 22 (Addr.mk (Array.size (World.heap w)) 0 none)) w158 = Result.ok (Value.slice l160.1 l160.2 l160.3) w158 ∧
                                                                                                 ∃ n161 : Int, (Sem.run Tryd.prog (loadVar 24 (Addr.mk (Array.size (World.heap w1)) 0 none)) w158 = Result.ok (Value.int IntKind.i64 n161) w158 ∧
                                                                                                  R (Value.tuple (Array.mk [Value.slice l160.1 l160.2 l160.3, Value.int IntKind.i64 n161])) w158))))))))))))) ∨
                                                                                    (∃ z162 : List PanicEntry, (e71 = Ending.panicked z162 ∧
                                                                                     CallsD Tryd.prog 12 (Array.mk [Value.pointer (some (Addr.mk (Array.size (World.heap w)) 0 none)), Value.pointer (some (Addr.mk (Array.size (World.heap w1)) 0 none))]) (FrameMode.panicking z162) (w72) (fun e163 z164 w165 =>
                                                                                       ((∃ v166 : Value, e163 = Ending.returned v166) ∧
                                                                                        (settle z164 = FrameMode.returning ∧
                                                                                         ∃ l167 : Sl, (Sem.run Tryd.prog (loadVar 22 (Addr.mk (Array.size (World.heap w)) 0 none)) w165 = Result.ok (Value.slice l167.1 l167.2 l167.3) w165 ∧
                                                                                          ∃ n168 : Int, (Sem.run Tryd.prog (loadVar 24 (Addr.mk (Array.size (World.heap w1)) 0 none)) w165 = Result.ok (Value.int IntKind.i64 n168) w165 ∧
                                                                                           R (Value.tuple (Array.mk [Value.slice l167.1 l167.2 l167.3, Value.int IntKind.i64 n168])) w165))))))))))) ∨
                                                                                (∃ z169 : List PanicEntry, (e69 = Ending.panicked z169 ∧
                                                                                 CallsD Tryd.prog 12 (Array.mk [Value.pointer (some (Addr.mk (Array.size (World.heap w)) 0 none)), Value.pointer (some (Addr.mk (Array.size (World.heap w1)) 0 none))]) (FrameMode.panicking z169) (w70) (fun e170 z171 w172 =>
                                                                                   ((∃ v173 : Value, e170 = Ending.returned v173) ∧
                                                                                    (settle z171 = FrameMode.returning ∧
                                                                                     ∃ l174 : Sl, (Sem.run Tryd.prog (loadVar 22 (Addr.mk (Array.size (World.heap w)) 0 none)) w172 = Result.ok (Value.slice l174.1 l174.2 l174.3) w172 ∧
                                                                                      ∃ n175 : Int, (Sem.run Tryd.prog (loadVar 24 (Addr.mk (Array.size (World.heap w1)) 0 none)) w172 = Result.ok (Value.int IntKind.i64 n175) w172 ∧
                                                                                       R (Value.tuple (Array.mk [Value.slice l174.1 l174.2 l174.3, Value.int IntKind.i64 n175])) w172)))))))))))) ∨
                                                                           (∃ z176 : List PanicEntry, (e66 = Ending.panicked z176 ∧
                                                                            CallsD Tryd.prog 12 (Array.mk [Value.pointer (some (Addr.mk (Array.size (World.heap w)) 0 none)), Value.pointer (some (Addr.mk (Array.size (World.heap w1)) 0 none))]) (FrameMode.panicking z176) (w67) (fun e177 z178 w179 =>
                                                                              ((∃ v180 : Value, e177 = Ending.returned v180) ∧
                                                                               (settle z178 = FrameMode.returning ∧
                                                                                ∃ l181 : Sl, (Sem.run Tryd.prog (loadVar 22 (Addr.mk (Array.size (World.heap w)) 0 none)) w179 = Result.ok (Value.slice l181.1 l181.2 l181.3) w179 ∧
                                                                                 ∃ n182 : Int, (Sem.run Tryd.prog (loadVar 24 (Addr.mk (Array.size (World.heap w1)) 0 none)) w179 = Result.ok (Value.int IntKind.i64 n182) w179 ∧
                                                                                  R (Value.tuple (Array.mk [Value.slice l181.1 l181.2 l181.3, Value.int IntKind.i64 n182])) w179))))))))))) ∧
                                                                      (decide (n64 < n22) = false →
                                                                        ∀ w183 : World,
                                                                        (Drew w65 w183 →
                                                                          ∃ I184 : World → Prop, (I184 w183 ∧
                                                                           ∃ n185 : Int, ((∀ w186 : World,
                                                                            (I184 w186 →
                                                                              World.cell? w186 (Addr.mk (Array.size (World.heap w2)) 1 none) = some (Value.int IntKind.i64 n185))) ∧
                                                                            ∃ s187 : ByteArray, ((∀ w188 : World,
                                                                             (I184 w188 →
                                                                               World.cell? w188 (Addr.mk (Array.size (World.heap w2)) 0 none) = some (Value.string s187))) ∧
                                                                             Calls Tryd.prog (16 : Nat) (Array.mk [Value.bool (n185 == (↑(ByteArray.size s187) : Int)), Value.int IntKind.i64 3]) (w183) (fun e189 w190 =>
                                                                               (((e189 = Ending.returned (Value.tuple (Array.mk [])) ∧
                                                                                 ((0 ≤ n31 ∧
                                                                                   n31 ≤ (↑(ByteArray.size x0) : Int)) ∧
                                                                                  (Wr w190 (Addr.mk (Array.size (World.heap w2)) 0 none) ∧
                                                                                   ∀ w191 : World,
                                                                                   (w191 = World.setCell w190 (Addr.mk (Array.size (World.heap w2)) 0 none) (Value.string (ByteArray.extract x0 0 (Int.toNat n31))) →
                                                                                     (Wr w191 (Addr.mk (Array.size (World.heap w2)) 1 none) ∧
                                                                                      ∀ w192 : World,
                                                                                      (w192 = World.setCell w191 (Addr.mk (Array.size (World.heap w2)) 1 none) (Value.int IntKind.i64 0) →
                                                                                        ∃ I193 : Int → Int → World → Prop, ∃ I194 : Int → Int → World → Nat, (I193 0 0 w192 ∧
                                                                                         ∀ n195 : Int,
                                                                                         ∀ n196 : Int,
                                                                                         ∀ w197 : World,
                                                                                         (I193 n195 n196 w197 →
                                                                                           (((decide (n196 < (↑l63.2 : Int)) = true →
                                                                                              ((0 ≤ n196 ∧
                                                                                                n196 < (↑l63.2 : Int)) ∧
                                                                                               ∃ a198 : Addr, (l63.1 = some a198 ∧
                                                                                                ∃ n199 : Int, ∃ n200 : Int, ∃ n201 : Int, ∃ n202 : Int, ∃ n203 : Int, ∃ s204 : ByteArray, ∃ n205 : Int, (Sem.run Tryd.prog (loadVar 51 (Addr.add a198 (Int.toNat n196 * 7))) w197 = Result.ok (Value.agg (Array.mk [Value.int IntKind.i64 n199, Value.int IntKind.u32 n200, Value.int IntKind.i64 n201, Value.int IntKind.i64 n202, Value.int IntKind.i64 n203, Value.string s204, Value.int IntKind.i64 n205])) w197 ∧
                                                                                                 ∀ w206 : World,
                                                                                                 (w206 = World.alloc w197 (Obj.cells (Array.mk [Value.int IntKind.i64 0, Value.int IntKind.u32 0, Value.int IntKind.i64 0, Value.int IntKind.i64 0, Value.int IntKind.i64 0, Value.string (ByteArray.mk (Array.mk [])), Value.int IntKind.i64 0]) 51) →
                                                                                                   ∃ w207 : World, (Sem.run Tryd.prog (storeVar 51 (Addr.mk (Array.size (World.heap w197)) 0 none) (Value.agg (Array.mk [Value.int IntKind.i64 n199, Value.int IntKind.u32 n200, Value.int IntKind.i64 n201, Value.int IntKind.i64 n202, Value.int IntKind.i64 n203, Value.string s204, Value.int IntKind.i64 n205]))) w206 = Result.ok PUnit.unit w207 ∧
                                                                                                    ∀ w208 : World,
                                                                                                    (Drew w207 w208 →
                                                                                                      ∃ I209 : World → Prop, (I209 w208 ∧
                                                                                                       ∃ n210 : Int, ((∀ w211 : World,
                                                                                                        (I209 w211 →
                                                                                                          World.cell? w211 (Addr.mk (Array.size (World.heap w197)) 6 none) = some (Value.int IntKind.i64 n210))) ∧
                                                                                                        ∃ n212 : Int, ((∀ w213 : World,
                                                                                                         (I209 w213 →
                                                                                                           World.cell? w213 (Addr.mk (Array.size (World.heap w2)) 1 none) = some (Value.int IntKind.i64 n212))) ∧
                                                                                                         Calls Tryd.prog (16 : Nat) (Array.mk [Value.bool (n210 == n212), Value.int IntKind.i64 3]) (w208) (fun e214 w215 =>
                                                                                                           (((e214 = Ending.returned (Value.tuple (Array.mk [])) ∧
                                                                                                             Calls Tryd.prog (13 : Nat) (Array.mk [Value.pointer (some (Addr.mk (Array.size (World.heap w2)) 0 none)), Value.string (ByteArray.mk (Array.mk [80, 75, 3, 4]))]) (w215) (fun e216 w217 =>
                                                                                                               (((e216 = Ending.returned (Value.tuple (Array.mk [])) ∧
                                                                                                                 ∀ w218 : World,
                                                                                                                 (Drew w217 w218 →
                                                                                                                   ∃ I219 : World → Prop, (I219 w218 ∧
                                                                                                                    ∃ n220 : Int, ∃ n221 : Int, ∃ n222 : Int, ∃ n223 : Int, ∃ n224 : Int, ((∀ w225 : World,
                                                                                                                     (I219 w225 →
                                                                                                                       Sem.run Tryd.prog (loadVar 48 (Addr.mk (Array.size (World.heap w197)) 0 none)) w225 = Result.ok (Value.agg (Array.mk [Value.int IntKind.i64 n220, Value.int IntKind.u32 n221, Value.int IntKind.i64 n222, Value.int IntKind.i64 n223, Value.int IntKind.i64 n224])) w225)) ∧
                                                                                                                     Calls Tryd.prog (17 : Nat) (Array.mk [Value.pointer (some (Addr.mk (Array.size (World.heap w2)) 0 none))]) (w218) (fun e226 w227 =>
                                                                                                                       ((∃ n228 : Int, ∃ n229 : Int, ∃ n230 : Int, ∃ n231 : Int, ∃ n232 : Int, (e226 = Ending.returned (Value.agg (Array.mk [Value.int IntKind.i64 n228, Value.int IntKind.u32 n229, Value.int IntKind.i64 n230, Value.int IntKind.i64 n231, Value.int IntKind.i64 n232])) ∧
                                                                                                                         (I219 w227 ∧
                                                                                                                          Calls Tryd.prog (16 : Nat) (Array.mk [Value.bool (n228 == n220 && (n229 == n221 && (n230 == n222 && (n231 == n223 && n232 == n224)))), Value.int IntKind.i64 3]) (w227) (fun e233 w234 =>
                                                                                                                            (((e233 = Ending.returned (Value.tuple (Array.mk [])) ∧
                                                                                                                              ∃ s235 : ByteArray, (World.cell? w234 (Addr.mk (Array.size (World.heap w197)) 5 none) = some (Value.string s235) ∧
                                                                                                                               Calls Tryd.prog (13 : Nat) (Array.mk [Value.pointer (some (Addr.mk (Array.size (World.heap w2)) 0 none)), Value.string s235]) (w234) (fun e236 w237 =>
                                                                                                                                 (((e236 = Ending.returned (Value.tuple (Array.mk [])) ∧
                                                                                                                                   ∃ n238 : Int, (World.cell? w237 (Addr.mk (Array.size (World.heap w197)) 2 none) = some (Value.int IntKind.i64 n238) ∧
                                                                                                                                    Calls Tryd.prog (19 : Nat) (Array.mk [Value.pointer (some (Addr.mk (Array.size (World.heap w2)) 0 none)), Value.int IntKind.i64 n238]) (w237) (fun e239 w240 =>
                                                                                                                                      ((∃ s241 : ByteArray, (e239 = Ending.returned (Value.string s241) ∧
                                                                                                                                        ∃ n242 : Int, (World.cell? w240 (Addr.mk (Array.size (World.heap w197)) 3 none) = some (Value.int IntKind.i64 n242) ∧
                                                                                                                                         Calls Tryd.prog (16 : Nat) (Array.mk [Value.bool (decide (IntKind.wrap IntKind.i64 (n195 + n242) ≤ 1048576)), Value.int IntKind.i64 2]) (w240) (fun e243 w244 =>
                                                                                                                                           (((e243 = Ending.returned (Value.tuple (Array.mk [])) ∧
                                                                                                                                             ∀ w245 : World,
                                                                                                                                             (Drew w244 w245 →
                                                                                                                                               ∃ I246 : World → Prop, (I246 w245 ∧
                                                                                                                                                ∃ l247 : Sl, ((∀ w248 : World,
                                                                                                                                                 (I246 w248 →
                                                                                                                                                   World.cell? w248 (Addr.mk (Array.size (World.heap w)) 0 none) = some (Value.slice l247.1 l247.2 l247.3))) ∧
                                                                                                                                                 ∃ s249 : ByteArray, ((∀ w250 : World,
                                                                                                                                                  (I246 w250 →
                                                                                                                                                    World.cell? w250 (Addr.mk (Array.size (World.heap w197)) 5 none) = some (Value.string s249))) ∧
                                                                                                                                                  ∃ n251 : Int, ∃ n252 : Int, ∃ n253 : Int, ∃ n254 : Int, ∃ n255 : Int, ∃ s256 : ByteArray, ∃ n257 : Int, ((∀ w258 : World,
                                                                                                                                                   (I246 w258 →
                                                                                                                                                     Sem.run Tryd.prog (loadVar 51 (Addr.mk (Array.size (World.heap w197)) 0 none)) w258 = Result.ok (Value.agg (Array.mk [Value.int IntKind.i64 n251, Value.int IntKind.u32 n252, Value.int IntKind.i64 n253, Value.int IntKind.i64 n254, Value.int IntKind.i64 n255, Value.string s256, Value.int IntKind.i64 n257])) w258)) ∧
                                                                                                                                                   Calls Tryd.prog (20 : Nat) (Array.mk [Value.agg (Array.mk [Value.int IntKind.i64 n251, Value.int IntKind.u32 n252, Value.int IntKind.i64 n253, Value.int IntKind.i64 n254, Value.int IntKind.i64 n255, Value.string s256, Value.int IntKind.i64 n257]), Value.string s241]) (w245) (fun e259 w260 =>
                                                                                                                                                     ((∃ s261 : ByteArray, (e259 = Ending.returned (Value.string s261) ∧
                                                                                                                                                       (I246 w260 ∧
                                                                                                                                                        ∀ w262 : World,
                                                                                                                                                        (w262 = World.alloc w260 (Obj.cells (Array.mk [Value.string s249, Value.string s261]) 32) →
                                                                                                                                                          (I246 w262 ∧
                                                                                                                                                           ∃ w263 : World, ∃ l264 : Sl, (Sem.run Tryd.prog (Builtin.append_ (Array.mk [22, 22]) 22 (Array.mk [Value.slice l247.1 l247.2 l247.3, Value.slice (some (Addr.mk (Array.size (World.heap w260)) 0 none)) 1 1])) w262 = Result.ok (Value.slice l264.1 l264.2 l264.3) w263 ∧
                                                                                                                                                            (I246 w263 ∧
                                                                                                                                                             (Wr w263 (Addr.mk (Array.size (World.heap w)) 0 none) ∧
                                                                                                                                                              ∀ w265 : World,
                                                                                                                                                              (w265 = World.setCell w263 (Addr.mk (Array.size (World.heap w)) 0 none) (Value.slice l264.1 l264.2 l264.3) →
                                                                                                                                                                (I193 (IntKind.wrap IntKind.i64 (n195 + n242)) (IntKind.wrap IntKind.i64 (n196 + 1)) w265 ∧
                                                                                                                                                                 I194 (IntKind.wrap IntKind.i64 (n195 + n242)) (IntKind.wrap IntKind.i64 (n196 + 1)) w265 < I194 n195 n196 w197)))))))))) ∨
                                                                                                                                                      (∃ z266 : List PanicEntry, (e259 = Ending.panicked z266 ∧
                                                                                                                                                       CallsD Tryd.prog 12 (Array.mk [Value.pointer (some (Addr.mk (Array.size (World.heap w)) 0 none)), Value.pointer (some (Addr.mk (Array.size (World.heap w1)) 0 none))]) (FrameMode.panicking z266) (w260) (fun e267 z268 w269 =>
                                                                                                                                                         ((∃ v270 : Value, e267 = Ending.returned v270) ∧
                                                                                                                                                          (settle z268 = FrameMode.returning ∧
                                                                                                                                                           ∃ l271 : Sl, (Sem.run Tryd.prog (loadVar 22 (Addr.mk (Array.size (World.heap w)) 0 none)) w269 = Result.ok (Value.slice l271.1 l271.2 l271.3) w269 ∧
                                                                                                                                                            ∃ n272 : Int, (Sem.run Tryd.prog (loadVar 24 (Addr.mk (Array.size (World.heap w1)) 0 none)) w269 = Result.ok (Value.int IntKind.i64 n272) w269 ∧
                                                                                                                                                             R (Value.tuple (Array.mk [Value.slice l271.1 l271.2 l271.3, Value.int IntKind.i64 n272])) w269)))))))))))))))) ∨
                                                                                                                                            (∃ z273 : List PanicEntry, (e243 = Ending.panicked z273 ∧
                                                                                                                                             CallsD Tryd.prog 12 (Array.mk [Value.pointer (some (Addr.mk (Array.size (World.heap w)) 0 none)), Value.pointer (some (Addr.mk (Array.size (World.heap w1)) 0 none))]) (FrameMode.panicking z273) (w244) (fun e274 z275 w276 =>
                                                                                                                                               ((∃ v277 : Value, e274 = Ending.returned v277) ∧
                                                                                                                                                (settle z275 = FrameMode.returning ∧
                                                                                                                                                 ∃ l278 : Sl, (Sem.run Tryd.prog (loadVar 22 (Addr.mk (Array.size (World.heap w)) 0 none)) w276 = Result.ok (Value.slice l278.1 l278.2 l278.3) w276 ∧
                                                                                                                                                  ∃ n279 : Int, (Sem.run Tryd.prog (loadVar 24 (Addr.mk (Array.size (World.heap w1)) 0 none)) w276 = Result.ok (Value.int IntKind.i64 n279) w276 ∧
                                                                                                                                                   R (Value.tuple (Array.mk [Value.slice l278.1 l278.2 l278.3, Value.int IntKind.i64 n279])) w276)))))))))))) ∨
                                                                                                                                       (∃ z280 : List PanicEntry, (e239 = Ending.panicked z280 ∧
                                                                                                                                        CallsD Tryd.prog 12 (Array.mk [Value.pointer (some (Addr.mk (Array.size (World.heap w)) 0 none)), Value.pointer (some (Addr.mk (Array.size (World.heap w1)) 0 none))]) (FrameMode.panicking z280) (w240) (fun e281 z282 w283 =>
                                                                                                                                          ((∃ v284 : Value, e281 = Ending.returned v284) ∧
                                                                                                                                           (settle z282 = FrameMode.returning ∧
                                                                                                                                            ∃ l285 : Sl, (Sem.run Tryd.prog (loadVar 22 (Addr.mk (Array.size (World.heap w)) 0 none)) w283 = Result.ok (Value.slice l285.1 l285.2 l285.3) w283 ∧
                                                                                                                                             ∃ n286 : Int, (Sem.run Tryd.prog (loadVar 24 (Addr.mk (Array.size (World.heap w1)) 0 none)) w283 = Result.ok (Value.int IntKind.i64 n286) w283 ∧
                                                                                                                                              R (Value.tuple (Array.mk [Value.slice l285.1 l285.2 l285.3, Value.int IntKind.i64 n286])) w283)))))))))))) ∨
                                                                                                                                  (∃ z287 : List PanicEntry, (e236 = Ending.panicked z287 ∧
                                                                                                                                   CallsD Tryd.prog 12 (Array.mk [Value.pointer (some (Addr.mk (Array.size (World.heap w)) 0 none)), Value.pointer (some (Addr.mk (Array.size (World.heap w1)) 0 none))]) (FrameMode.panicking z287) (w237) (fun e288 z289 w290 =>
                                                                                                                                     ((∃ v291 : Value, e288 = Ending.returned v291) ∧
                                                                                                                                      (settle z289 = FrameMode.returning ∧
                                                                                                                                       ∃ l292 : Sl, (Sem.run Tryd.prog (loadVar 22 (Addr.mk (Array.size (World.heap w)) 0 none)) w290 = Result.ok (Value.slice l292.1 l292.2 l292.3) w290 ∧
                                                                                                                                        ∃ n293 : Int, (Sem.run Tryd.prog (loadVar 24 (Addr.mk (Array.size (World.heap w1)) 0 none)) w290 = Result.ok (Value.int IntKind.i64 n293) w290 ∧
                                                                                                                                         R (Value.tuple (Array.mk [Value.slice l292.1 l292.2 l292.3, Value.int IntKind.i64 n293])) w290)))))))))))) ∨
                                                                                                                             (∃ z294 : List PanicEntry, (e233 = Ending.panicked z294 ∧
                                                                                                                              CallsD Tryd.prog 12 (Array.mk [Value.pointer (some (Addr.mk (Array.size (World.heap w)) 0 none)), Value.pointer (some (Addr.mk (Array.size (World.heap w1)) 0 none))]) (FrameMode.panicking z294) (w234) (fun e295 z296 w297 =>
                                                                                                                                ((∃ v298 : Value, e295 = Ending.returned v298) ∧
                                                                                                                                 (settle z296 = FrameMode.returning ∧
                                                                                                                                  ∃ l299 : Sl, (Sem.run Tryd.prog (loadVar 22 (Addr.mk (Array.size (World.heap w)) 0 none)) w297 = Result.ok (Value.slice l299.1 l299.2 l299.3) w297 ∧
                                                                                                                                   ∃ n300 : Int, (Sem.run Tryd.prog (loadVar 24 (Addr.mk (Array.size (World.heap w1)) 0 none)) w297 = Result.ok (Value.int IntKind.i64 n300) w297 ∧
                                                                                                                                    R (Value.tuple (Array.mk [Value.slice l299.1 l299.2 l299.3, Value.int IntKind.i64 n300])) w297)))))))))))) ∨
                                                                                                                        (∃ z301 : List PanicEntry, (e226 = Ending.panicked z301 ∧
                                                                                                                         CallsD Tryd.prog 12 (Array.mk [Value.pointer (some (Addr.mk (Array.size (World.heap w)) 0 none)), Value.pointer (some (Addr.mk (Array.size (World.heap w1)) 0 none))]) (FrameMode.panicking z301) (w227) (fun e302 z303 w304 =>
                                                                                                                           ((∃ v305 : Value, e302 = Ending.returned v305) ∧
                                                                                                                            (settle z303 = FrameMode.returning ∧
                                                                                                                             ∃ l306 : Sl, (Sem.run Tryd.prog (loadVar 22 (Addr.mk (Array.size (World.heap w)) 0 none)) w304 = Result.ok (Value.slice l306.1 l306.2 l306.3) w304 ∧
                                                                                                                              ∃ n307 : Int, (Sem.run Tryd.prog (loadVar 24 (Addr.mk (Array.size (World.heap w1)) 0 none)) w304 = Result.ok (Value.int IntKind.i64 n307) w304 ∧
                                                                                                                               R (Value.tuple (Array.mk [Value.slice l306.1 l306.2 l306.3, Value.int IntKind.i64 n307])) w304)))))))))))))) ∨
                                                                                                                (∃ z308 : List PanicEntry, (e216 = Ending.panicked z308 ∧
                                                                                                                 CallsD Tryd.prog 12 (Array.mk [Value.pointer (some (Addr.mk (Array.size (World.heap w)) 0 none)), Value.pointer (some (Addr.mk (Array.size (World.heap w1)) 0 none))]) (FrameMode.panicking z308) (w217) (fun e309 z310 w311 =>
                                                                                                                   ((∃ v312 : Value, e309 = Ending.returned v312) ∧
                                                                                                                    (settle z310 = FrameMode.returning ∧
                                                                                                                     ∃ l313 : Sl, (Sem.run Tryd.prog (loadVar 22 (Addr.mk (Array.size (World.heap w)) 0 none)) w311 = Result.ok (Value.slice l313.1 l313.2 l313.3) w311 ∧
                                                                                                                      ∃ n314 : Int, (Sem.run Tryd.prog (loadVar 24 (Addr.mk (Array.size (World.heap w1)) 0 none)) w311 = Result.ok (Value.int IntKind.i64 n314) w311 ∧
                                                                                                                       R (Value.tuple (Array.mk [Value.slice l313.1 l313.2 l313.3, Value.int IntKind.i64 n314])) w311))))))))))) ∨
                                                                                                            (∃ z315 : List PanicEntry, (e214 = Ending.panicked z315 ∧
                                                                                                             CallsD Tryd.prog 12 (Array.mk [Value.pointer (some (Addr.mk (Array.size (World.heap w)) 0 none)), Value.pointer (some (Addr.mk (Array.size (World.heap w1)) 0 none))]) (FrameMode.panicking z315) (w215) (fun e316 z317 w318 =>
                                                                                                               ((∃ v319 : Value, e316 = Ending.returned v319) ∧
                                                                                                                (settle z317 = FrameMode.returning ∧
                                                                                                                 ∃ l320 : Sl, (Sem.run Tryd.prog (loadVar 22 (Addr.mk (Array.size (World.heap w)) 0 none)) w318 = Result.ok (Value.slice l320.1 l320.2 l320.3) w318 ∧
                                                                                                                  ∃ n321 : Int, (Sem.run Tryd.prog (loadVar 24 (Addr.mk (Array.size (World.heap w1)) 0 none)) w318 = Result.ok (Value.int IntKind.i64 n321) w318 ∧
                                                                                                                   R (Value.tuple (Array.mk [Value.slice l320.1 l320.2 l320.3, Value.int IntKind.i64 n321])) w318)))))))))))))))))))) ∧
                                                                                            (decide (n196 < (↑l63.2 : Int)) = false →
                                                                                              ∃ n322 : Int, (World.cell? w197 (Addr.mk (Array.size (World.heap w2)) 1 none) = some (Value.int IntKind.i64 n322) ∧
                                                                                               Calls Tryd.prog (16 : Nat) (Array.mk [Value.bool (n322 == n31), Value.int IntKind.i64 3]) (w197) (fun e323 w324 =>
                                                                                                 (((e323 = Ending.returned (Value.tuple (Array.mk [])) ∧
                                                                                                   ∃ l325 : Sl, (World.cell? w324 (Addr.mk (Array.size (World.heap w)) 0 none) = some (Value.slice l325.1 l325.2 l325.3) ∧
                                                                                                    Calls Tryd.prog (21 : Nat) (Array.mk [Value.slice l325.1 l325.2 l325.3]) (w324) (fun e326 w327 =>
                                                                                                      ((∃ n328 : Int, (e326 = Ending.returned (Value.int IntKind.i64 n328) ∧
                                                                                                        ((((n328 != 0) = true →
                                                                                                           (Wr w327 (Addr.mk (Array.size (World.heap w)) 0 none) ∧
                                                                                                            ∀ w329 : World,
                                                                                                            (w329 = World.setCell w327 (Addr.mk (Array.size (World.heap w)) 0 none) (Value.slice none 0 0) →
                                                                                                              (Wr w329 (Addr.mk (Array.size (World.heap w1)) 0 none) ∧
                                                                                                               ∀ w330 : World,
                                                                                                               (w330 = World.setCell w329 (Addr.mk (Array.size (World.heap w1)) 0 none) (Value.int IntKind.i64 n328) →
                                                                                                                 CallsD Tryd.prog (12 : Nat) (Array.mk [Value.pointer (some (Addr.mk (Array.size (World.heap w)) 0 none)), Value.pointer (some (Addr.mk (Array.size (World.heap w1)) 0 none))]) (FrameMode.returning) (w330) (fun e331 z332 w333 =>
                                                                                                                   ((∃ v334 : Value, e331 = Ending.returned v334) ∧
                                                                                                                    (z332 = FrameMode.returning ∧
                                                                                                                     ∃ l335 : Sl, (Sem.run Tryd.prog (loadVar 22 (Addr.mk (Array.size (World.heap w)) 0 none)) w333 = Result.ok (Value.slice l335.1 l335.2 l335.3) w333 ∧
                                                                                                                      ∃ n336 : Int, (Sem.run Tryd.prog (loadVar 24 (Addr.mk (Array.size (World.heap w1)) 0 none)) w333 = Result.ok (Value.int IntKind.i64 n336) w333 ∧
                                                                                                                       R (Value.tuple (Array.mk [Value.slice l335.1 l335.2 l335.3, Value.int IntKind.i64 n336])) w333))))))))))) ∧
                                                                                                         ((n328 != 0) = false →
                                                                                                           ∃ l337 : Sl, (World.cell? w327 (Addr.mk (Array.size (World.heap w)) 0 none) = some (Value.slice l337.1 l337.2 l337.3) ∧
                                                                                                            (Wr w327 (Addr.mk (Array.size (World.heap w)) 0 none) ∧
                                                                                                             ∀ w338 : World,
                                                                                                             (w338 = World.setCell w327 (Addr.mk (Array.size (World.heap w)) 0 none) (Value.slice l337.1 l337.2 l337.3) →
                                                                                                               (Wr w338 (Addr.mk (Array.size (World.heap w1)) 0 none) ∧
                                                                                                                ∀ w339 : World,
                                                                                                                (w339 = World.setCell w338 (Addr.mk (Array.size (World.heap w1)) 0 none) (Value.int IntKind.i64 0) →
                                                                                                                  CallsD Tryd.prog (12 : Nat) (Array.mk [Value.pointer (some (Addr.mk (Array.size (World.heap w)) 0 none)), Value.pointer (some (Addr.mk (Array.size (World.heap w1)) 0 none))]) (FrameMode.returning) (w339) (fun e340 z341 w342 =>
                                                                                                                    ((∃ v343 : Value, e340 = Ending.returned v343) ∧
                                                                                                                     (z341 = FrameMode.returning ∧
                                                                                                                      ∃ l344 : Sl, (Sem.run Tryd.prog (loadVar 22 (Addr.mk (Array.size (World.heap w)) 0 none)) w342 = Result.ok (Value.slice l344.1 l344.2 l344.3) w342 ∧
                                                                                                                       ∃ n345 : Int, (Sem.run Tryd.prog (loadVar 24 (Addr.mk (Array.size (World.heap w1)) 0 none)) w342 = Result.ok (Value.int IntKind.i64 n345) w342 ∧
                                                                                                                        R (Value.tuple (Array.mk [Value.slice l344.1 l344.2 l344.3, Value.int IntKind.i64 n345])) w342)))))))))))))) ∨
                                                                                                       (∃ z346 : List PanicEntry, (e326 = Ending.panicked z346 ∧
                                                                                                        CallsD Tryd.prog 12 (Array.mk [Value.pointer (some (Addr.mk (Array.size (World.heap w)) 0 none)), Value.pointer (some (Addr.mk (Array.size (World.heap w1)) 0 none))]) (FrameMode.panicking z346) (w327) (fun e347 z348 w349 =>
                                                                                                          ((∃ v350 : Value, e347 = Ending.returned v350) ∧
                                                                                                           (settle z348 = FrameMode.returning ∧
                                                                                                            ∃ l351 : Sl, (Sem.run Tryd.prog (loadVar 22 (Addr.mk (Array.size (World.heap w)) 0 none)) w349 = Result.ok (Value.slice l351.1 l351.2 l351.3) w349 ∧
                                                                                                             ∃ n352 : Int, (Sem.run Tryd.prog (loadVar 24 (Addr.mk (Array.size (World.heap w1)) 0 none)) w349 = Result.ok (Value.int IntKind.i64 n352) w349 ∧
                                                                                                              R (Value.tuple (Array.mk [Value.slice l351.1 l351.2 l351.3, Value.int IntKind.i64 n352])) w349)))))))))))) ∨
                                                                                                  (∃ z353 : List PanicEntry, (e323 = Ending.panicked z353 ∧
                                                                                                   CallsD Tryd.prog 12 (Array.mk [Value.pointer (some (Addr.mk (Array.size (World.heap w)) 0 none)), Value.pointer (some (Addr.mk (Array.size (World.heap w1)) 0 none))]) (FrameMode.panicking z353) (w324) (fun e354 z355 w356 =>
                                                                                                     ((∃ v357 : Value, e354 = Ending.returned v357) ∧
                                                                                                      (settle z355 = FrameMode.returning ∧
                                                                                                       ∃ l358 : Sl, (Sem.run Tryd.prog (loadVar 22 (Addr.mk (Array.size (World.heap w)) 0 none)) w356 = Result.ok (Value.slice l358.1 l358.2 l358.3) w356 ∧
                                                                                                        ∃ n359 : Int, (Sem.run Tryd.prog (loadVar 24 (Addr.mk (Array.size (World.heap w1)) 0 none)) w356 = Result.ok (Value.int IntKind.i64 n359) w356 ∧
                                                                                                         R (Value.tuple (Array.mk [Value.slice l358.1 l358.2 l358.3, Value.int IntKind.i64 n359])) w356))))))))))))))))))))) ∨
                                                                                (∃ z360 : List PanicEntry, (e189 = Ending.panicked z360 ∧
                                                                                 CallsD Tryd.prog 12 (Array.mk [Value.pointer (some (Addr.mk (Array.size (World.heap w)) 0 none)), Value.pointer (some (Addr.mk (Array.size (World.heap w1)) 0 none))]) (FrameMode.panicking z360) (w190) (fun e361 z362 w363 =>
                                                                                   ((∃ v364 : Value, e361 = Ending.returned v364) ∧
                                                                                    (settle z362 = FrameMode.returning ∧
                                                                                     ∃ l365 : Sl, (Sem.run Tryd.prog (loadVar 22 (Addr.mk (Array.size (World.heap w)) 0 none)) w363 = Result.ok (Value.slice l365.1 l365.2 l365.3) w363 ∧
                                                                                      ∃ n366 : Int, (Sem.run Tryd.prog (loadVar 24 (Addr.mk (Array.size (World.heap w1)) 0 none)) w363 = Result.ok (Value.int IntKind.i64 n366) w363 ∧
                                                                                       R (Value.tuple (Array.mk [Value.slice l365.1 l365.2 l365.3, Value.int IntKind.i64 n366])) w363)))))))))))))))))))))))) ∨
                                                          (∃ z367 : List PanicEntry, (e57 = Ending.panicked z367 ∧
                                                           CallsD Tryd.prog 12 (Array.mk [Value.pointer (some (Addr.mk (Array.size (World.heap w)) 0 none)), Value.pointer (some (Addr.mk (Array.size (World.heap w1)) 0 none))]) (FrameMode.panicking z367) (w58) (fun e368 z369 w370 =>
                                                             ((∃ v371 : Value, e368 = Ending.returned v371) ∧
                                                              (settle z369 = FrameMode.returning ∧
                                                               ∃ l372 : Sl, (Sem.run Tryd.prog (loadVar 22 (Addr.mk (Array.size (World.heap w)) 0 none)) w370 = Result.ok (Value.slice l372.1 l372.2 l372.3) w370 ∧
                                                                ∃ n373 : Int, (Sem.run Tryd.prog (loadVar 24 (Addr.mk (Array.size (World.heap w1)) 0 none)) w370 = Result.ok (Value.int IntKind.i64 n373) w370 ∧
                                                                 R (Value.tuple (Array.mk [Value.slice l372.1 l372.2 l372.3, Value.int IntKind.i64 n373])) w370))))))))))))) ∨
                                                   (∃ z374 : List PanicEntry, (e35 = Ending.panicked z374 ∧
                                                    CallsD Tryd.prog 12 (Array.mk [Value.pointer (some (Addr.mk (Array.size (World.heap w)) 0 none)), Value.pointer (some (Addr.mk (Array.size (World.heap w1)) 0 none))]) (FrameMode.panicking z374) (w36) (fun e375 z376 w377 =>
                                                      ((∃ v378 : Value, e375 = Ending.returned v378) ∧
                                                       (settle z376 = FrameMode.returning ∧
                                                        ∃ l379 : Sl, (Sem.run Tryd.prog (loadVar 22 (Addr.mk (Array.size (World.heap w)) 0 none)) w377 = Result.ok (Value.slice l379.1 l379.2 l379.3) w377 ∧
                                                         ∃ n380 : Int, (Sem.run Tryd.prog (loadVar 24 (Addr.mk (Array.size (World.heap w1)) 0 none)) w377 = Result.ok (Value.int IntKind.i64 n380) w377 ∧
                                                          R (Value.tuple (Array.mk [Value.slice l379.1 l379.2 l379.3, Value.int IntKind.i64 n380])) w377))))))))))) ∨
                                               (∃ z381 : List PanicEntry, (e32 = Ending.panicked z381 ∧
                                                CallsD Tryd.prog 12 (Array.mk [Value.pointer (some (Addr.mk (Array.size (World.heap w)) 0 none)), Value.pointer (some (Addr.mk (Array.size (World.heap w1)) 0 none))]) (FrameMode.panicking z381) (w33) (fun e382 z383 w384 =>
                                                  ((∃ v385 : Value, e382 = Ending.returned v385) ∧
                                                   (settle z383 = FrameMode.returning ∧
                                                    ∃ l386 : Sl, (Sem.run Tryd.prog (loadVar 22 (Addr.mk (Array.size (World.heap w)) 0 none)) w384 = Result.ok (Value.slice l386.1 l386.2 l386.3) w384 ∧
                                                     ∃ n387 : Int, (Sem.run Tryd.prog (loadVar 24 (Addr.mk (Array.size (World.heap w1)) 0 none)) w384 = Result.ok (Value.int IntKind.i64 n387) w384 ∧
                                                      R (Value.tuple (Array.mk [Value.slice l386.1 l386.2 l386.3, Value.int IntKind.i64 n387])) w384))))))))))) ∨
                                           (∃ z388 : List PanicEntry, (e29 = Ending.panicked z388 ∧
                                            CallsD Tryd.prog 12 (Array.mk [Value.pointer (some (Addr.mk (Array.size (World.heap w)) 0 none)), Value.pointer (some (Addr.mk (Array.size (World.heap w1)) 0 none))]) (FrameMode.panicking z388) (w30) (fun e389 z390 w391 =>
                                              ((∃ v392 : Value, e389 = Ending.returned v392) ∧
                                               (settle z390 = FrameMode.returning ∧
                                                ∃ l393 : Sl, (Sem.run Tryd.prog (loadVar 22 (Addr.mk (Array.size (World.heap w)) 0 none)) w391 = Result.ok (Value.slice l393.1 l393.2 l393.3) w391 ∧
                                                 ∃ n394 : Int, (Sem.run Tryd.prog (loadVar 24 (Addr.mk (Array.size (World.heap w1)) 0 none)) w391 = Result.ok (Value.int IntKind.i64 n394) w391 ∧
                                                  R (Value.tuple (Array.mk [Value.slice l393.1 l393.2 l393.3, Value.int IntKind.i64 n394])) w391))))))))))) ∨
                                       (∃ z395 : List PanicEntry, (e26 = Ending.panicked z395 ∧
                                        CallsD Tryd.prog 12 (Array.mk [Value.pointer (some (Addr.mk (Array.size (World.heap w)) 0 none)), Value.pointer (some (Addr.mk (Array.size (World.heap w1)) 0 none))]) (FrameMode.panicking z395) (w27) (fun e396 z397 w398 =>
                                          ((∃ v399 : Value, e396 = Ending.returned v399) ∧
                                           (settle z397 = FrameMode.returning ∧
                                            ∃ l400 : Sl, (Sem.run Tryd.prog (loadVar 22 (Addr.mk (Array.size (World.heap w)) 0 none)) w398 = Result.ok (Value.slice l400.1 l400.2 l400.3) w398 ∧
                                             ∃ n401 : Int, (Sem.run Tryd.prog (loadVar 24 (Addr.mk (Array.size (World.heap w1)) 0 none)) w398 = Result.ok (Value.int IntKind.i64 n401) w398 ∧
                                              R (Value.tuple (Array.mk [Value.slice l400.1 l400.2 l400.3, Value.int IntKind.i64 n401])) w398))))))))))) ∨
                                   (∃ z402 : List PanicEntry, (e23 = Ending.panicked z402 ∧
                                    CallsD Tryd.prog 12 (Array.mk [Value.pointer (some (Addr.mk (Array.size (World.heap w)) 0 none)), Value.pointer (some (Addr.mk (Array.size (World.heap w1)) 0 none))]) (FrameMode.panicking z402) (w24) (fun e403 z404 w405 =>
                                      ((∃ v406 : Value, e403 = Ending.returned v406) ∧
                                       (settle z404 = FrameMode.returning ∧
                                        ∃ l407 : Sl, (Sem.run Tryd.prog (loadVar 22 (Addr.mk (Array.size (World.heap w)) 0 none)) w405 = Result.ok (Value.slice l407.1 l407.2 l407.3) w405 ∧
                                         ∃ n408 : Int, (Sem.run Tryd.prog (loadVar 24 (Addr.mk (Array.size (World.heap w1)) 0 none)) w405 = Result.ok (Value.int IntKind.i64 n408) w405 ∧
                                          R (Value.tuple (Array.mk [Value.slice l407.1 l407.2 l407.3, Value.int IntKind.i64 n408])) w405))))))))))) ∨
                               (∃ z409 : List PanicEntry, (e20 = Ending.panicked z409 ∧
                                CallsD Tryd.prog 12 (Array.mk [Value.pointer (some (Addr.mk (Array.size (World.heap w)) 0 none)), Value.pointer (some (Addr.mk (Array.size (World.heap w1)) 0 none))]) (FrameMode.panicking z409) (w21) (fun e410 z411 w412 =>
                                  ((∃ v413 : Value, e410 = Ending.returned v413) ∧
                                   (settle z411 = FrameMode.returning ∧
                                    ∃ l414 : Sl, (Sem.run Tryd.prog (loadVar 22 (Addr.mk (Array.size (World.heap w)) 0 none)) w412 = Result.ok (Value.slice l414.1 l414.2 l414.3) w412 ∧
                                     ∃ n415 : Int, (Sem.run Tryd.prog (loadVar 24 (Addr.mk (Array.size (World.heap w1)) 0 none)) w412 = Result.ok (Value.int IntKind.i64 n415) w412 ∧
                                      R (Value.tuple (Array.mk [Value.slice l414.1 l414.2 l414.3, Value.int IntKind.i64 n415])) w412))))))))))) ∨
                           (∃ z416 : List PanicEntry, (e18 = Ending.panicked z416 ∧
                            CallsD Tryd.prog 12 (Array.mk [Value.pointer (some (Addr.mk (Array.size (World.heap w)) 0 none)), Value.pointer (some (Addr.mk (Array.size (World.heap w1)) 0 none))]) (FrameMode.panicking z416) (w19) (fun e417 z418 w419 =>
                              ((∃ v420 : Value, e417 = Ending.returned v420) ∧
                               (settle z418 = FrameMode.returning ∧
                                ∃ l421 : Sl, (Sem.run Tryd.prog (loadVar 22 (Addr.mk (Array.size (World.heap w)) 0 none)) w419 = Result.ok (Value.slice l421.1 l421.2 l421.3) w419 ∧
                                 ∃ n422 : Int, (Sem.run Tryd.prog (loadVar 24 (Addr.mk (Array.size (World.heap w1)) 0 none)) w419 = Result.ok (Value.int IntKind.i64 n422) w419 ∧
                                  R (Value.tuple (Array.mk [Value.slice l421.1 l421.2 l421.3, Value.int IntKind.i64 n422])) w419)))))))))))) ∨
                      (∃ z423 : List PanicEntry, (e15 = Ending.panicked z423 ∧
                       CallsD Tryd.prog 12 (Array.mk [Value.pointer (some (Addr.mk (Array.size (World.heap w)) 0 none)), Value.pointer (some (Addr.mk (Array.size (World.heap w1)) 0 none))]) (FrameMode.panicking z423) (w16) (fun e424 z425 w426 =>
                         ((∃ v427 : Value, e424 = Ending.returned v427) ∧
                          (settle z425 = FrameMode.returning ∧
                           ∃ l428 : Sl, (Sem.run Tryd.prog (loadVar 22 (Addr.mk (Array.size (World.heap w)) 0 none)) w426 = Result.ok (Value.slice l428.1 l428.2 l428.3) w426 ∧
                            ∃ n429 : Int, (Sem.run Tryd.prog (loadVar 24 (Addr.mk (Array.size (World.heap w1)) 0 none)) w426 = Result.ok (Value.int IntKind.i64 n429) w426 ∧
                             R (Value.tuple (Array.mk [Value.slice l428.1 l428.2 l428.3, Value.int IntKind.i64 n429])) w426)))))))))))) ∨
                 (∃ z430 : List PanicEntry, (e12 = Ending.panicked z430 ∧
                  CallsD Tryd.prog 12 (Array.mk [Value.pointer (some (Addr.mk (Array.size (World.heap w)) 0 none)), Value.pointer (some (Addr.mk (Array.size (World.heap w1)) 0 none))]) (FrameMode.panicking z430) (w13) (fun e431 z432 w433 =>
                    ((∃ v434 : Value, e431 = Ending.returned v434) ∧
                     (settle z432 = FrameMode.returning ∧
                      ∃ l435 : Sl, (Sem.run Tryd.prog (loadVar 22 (Addr.mk (Array.size (World.heap w)) 0 none)) w433 = Result.ok (Value.slice l435.1 l435.2 l435.3) w433 ∧
                       ∃ n436 : Int, (Sem.run Tryd.prog (loadVar 24 (Addr.mk (Array.size (World.heap w1)) 0 none)) w433 = Result.ok (Value.int IntKind.i64 n436) w433 ∧
                        R (Value.tuple (Array.mk [Value.slice l435.1 l435.2 l435.3, Value.int IntKind.i64 n436])) w433))))))))))))))))
theorem vc_zip_Read_x_ok {x0 : ByteArray} {w : World} {R : Value → World → Prop} {R' : Ending → World → Prop} (h : vc_zip_Read_x x0 w R) (hR : ∀ v w', R v w' → R' (.returned v) w') :
    Calls Tryd.prog 6 #[.string x0] w R' :=
  calls_of_bodyDX (vs := [(.string x0, false)]) (ty := ty) (ann := ⟨[(12, [])], [(16, [(9, .slice), (75, .int .i64)]), (28, [(11, .int .i64), (129, .int .i64)])], [(24, .held [(0, true), (1, true), (2, true), (3, true), (4, true), (5, true), (6, true), (7, true), (8, true), (9, true), (10, false)]), (30, .held [(0, true), (1, true), (2, true), (3, true), (4, true), (5, true), (6, true), (7, false)]), (32, .held [(0, true), (2, true), (3, true), (1, false), (4, true), (5, false)]), (37, .held [(0, true), (1, true), (2, true), (4, true), (3, true), (5, false), (6, true), (7, false), (8, false), (9, false)])], []⟩) (c := Tryd.f6.body.getD .skip) (by kernel_rfl) Tryd.func6 (by kernel_rfl) (by kernel_rfl) (Eq.mp (by kernel_rfl) h) hR
end Go.Proofs.YtlohadencnpdgaaDoor

/- zip.Read of any bytes: the files of the archive that they are, or an error. Condition: the text is no longer than memory. -/
set_option linter.unusedVariables false
namespace Go.Proofs.YtlohadencnpdgaaDoor
open Go Vc SumM Go.Proofs

/-- What the index says of a file. -/
structure HdZ where
  m : Nat
  c : Nat
  p : Nat
  z : Nat
  path : ByteArray
  off : Nat
def headH (h : HdZ) : List Value := headV h.m h.c h.p h.z h.path.size
def encH (h : HdZ) : List Value := headH h ++ [.string h.path, .int .i64 (h.off : Int)]
theorem encH_one (h : HdZ) : ∀ v ∈ encH h, v.oneCell' = true := fun v hv => by
  unfold encH at hv
  rcases List.mem_append.1 hv with hv | hv
  · exact headV_one _ _ _ _ _ v hv
  · simp only [List.mem_cons, List.mem_nil_iff, or_false] at hv
    rcases hv with rfl | rfl <;> rfl
theorem elH : ElK encH 7 Tryd.prog T_S_zip_entry T_zip_entry (.agg #[.int .i64 0, .int .u32 0, .int .i64 0, .int .i64 0, .int .i64 0, .string ⟨#[]⟩, .int .i64 0]) 64 :=
  ⟨by kernel_rfl, by kernel_rfl, rfl, by decide, by kernel_rfl, fun _ => rfl, encH_one⟩
def cenH (h : HdZ) : List UInt8 := [80, 75, 1, 2] ++ (littleB 2 20 ++ (factsL h.m h.c h.p h.z h.path.size ++ (littleB 2 0 ++ (littleB 2 0 ++ (littleB 2 0 ++ (littleB 4 0 ++ (littleB 4 h.off ++ h.path.data.toList)))))))
def hdZ (x : EntZ × Nat) : HdZ := ⟨x.1.method, (crcW x.1.data.data.toList).toNat, x.1.packed.size, x.1.data.size, x.1.path, x.2⟩
theorem idxZ_cen : ∀ (off : Nat) (es : List EntZ), ((entsZ off es).map hdZ).flatMap cenH = idxZ off es
  | _, [] => rfl
  | off, x :: r => by
    rw [entsZ, idxZ, List.map_cons, List.flatMap_cons, idxZ_cen (off + (locZ x).length) r]; rfl
theorem entsZ_snoc (x : EntZ) : ∀ (off : Nat) (es : List EntZ), entsZ off (es ++ [x]) = entsZ off es ++ [(x, off + (outZ es).length)]
  | off, [] => by simp [entsZ, outZ]
  | off, y :: r => by
    rw [List.cons_append, entsZ, entsZ, entsZ_snoc x _ r, outZ_cons, List.length_append, List.cons_append, Nat.add_assoc]
def KeptZ (x : EntZ) : Prop := (x.method = 0 ∧ x.packed = x.data) ∨ x.method = 8
/-- What Read hands back. -/
def ReadR (s : ByteArray) (w : World) (v : Value) (w' : World) : Prop := Fr (fun _ => False) w w' ∧
  ((∃ (es : List EntZ) (l : Sl), s.data.toList = arcZ es ∧ zchk (es.map filZ) = 0 ∧ (∀ x ∈ es, KeptZ x) ∧ v = .tuple #[.slice l.a l.len l.cap, .int .i64 0] ∧ OwnK encF 2 w' w.heap.size T_api_File l (es.map filZ)) ∨ ∃ k : Int, k ≠ 0 ∧ v = .tuple #[.slice none 0 0, .int .i64 k])
theorem little_inj {n x y : Nat} (hx : x < 256 ^ n) (hy : y < 256 ^ n) (h : littleB n x = littleB n y) : x = y := by
  have := congrArg numL h
  rwa [numL_little n x hx, numL_little n y hy] at this
set_option maxHeartbeats 6400000 in
theorem read_x (s : ByteArray) (hsb : s.size ≤ 4611686018427387904) (w : World) :
    Calls Tryd.prog F_zip_Read #[.string s] w fun e w' => ∃ v, e = .returned v ∧ ReadR s w v w' := by
  refine vc_zip_Read_x_ok (R := ReadR s w) ?_ (fun v w' h => ⟨v, rfl, h⟩)
  intro w1 h1 w2 h2
  have f1 : Fr (fun _ => False) w w1 := by rw [h1]; exact .alloc _ _ _
  have f2 : Fr (fun _ => False) w1 w2 := by rw [h2]; exact .alloc _ _ _
  have s1 : w1.heap.size = w.heap.size + 1 := by rw [h1]; simp
  have s2 : w2.heap.size = w.heap.size + 2 := by rw [h2]; simp [s1]
  have z2 : ZSt w ⟨none, 0, 0⟩ w2 := by
    refine ⟨((by rw [h1]; exact .alloc _ _ _ : Fr (fun q => w.heap.size ≤ q) w w1)).trans' (by rw [h2]; exact .alloc _ _ _), ?_, ?_⟩
    · rw [h2]; exact (Fr.alloc (fun _ => False) w1 _).keep (by rw [h1]; exact alloc_new w _) (by simp)
    · rw [h2, ← s1]; exact alloc_new w1 _
  rw [s2, s1]
  have bad : ∀ (k : Int), k ≠ 0 → ∀ {lf : Sl} {w' : World}, ZSt w lf w' → Wr w' ⟨w.heap.size, 0, none⟩ ∧ ∀ w7, w7 = w'.setCell ⟨w.heap.size, 0, none⟩ (.slice none 0 0) → (Wr w7 ⟨w.heap.size + 1, 0, none⟩ ∧ ∀ w8, w8 = w7.setCell ⟨w.heap.size + 1, 0, none⟩ (.int .i64 k) →
      (∃ l : Sl, (loadVar T_S_api_File ⟨w.heap.size, 0, none⟩).run Tryd.prog w8 = .ok (.slice l.a l.len l.cap) w8 ∧ ∃ n : Int, (loadVar T_api_Errno ⟨w.heap.size + 1, 0, none⟩).run Tryd.prog w8 = .ok (.int .i64 n) w8 ∧ ReadR s w (.tuple #[.slice l.a l.len l.cap, .int .i64 n]) w8)) := by
    intro k hk lf w' z
    refine ⟨wr_blk z.A (Nat.lt_succ_self 0), fun w7 h7 => ?_⟩
    have hA7 : w7.heap[w.heap.size]? = some (.cells #[.slice none 0 0] T_S_api_File (0, 0)) := by rw [h7, set_blk z.A]; rfl
    have f7 : Fr (· = w.heap.size) w' w7 := by rw [h7]; exact Fr.set (· = w.heap.size) w' (a := ⟨w.heap.size, 0, none⟩) _ rfl
    have hE7 := f7.keep z.E (by omega)
    refine ⟨wr_blk hE7 (Nat.lt_succ_self 0), fun w8 h8 => ?_⟩
    have hE8 : w8.heap[w.heap.size + 1]? = some (.cells #[.int .i64 k] T_api_Errno (0, 0)) := by rw [h8, set_blk hE7]; rfl
    have f8 : Fr (· = w.heap.size + 1) w7 w8 := by rw [h8]; exact Fr.set (· = w.heap.size + 1) w7 (a := ⟨w.heap.size + 1, 0, none⟩) _ rfl
    refine ⟨⟨none, 0, 0⟩, load_one (by kernel_rfl) (by rw [cell_blk (f8.keep hA7 (by omega))]; rfl), k, load_one (by kernel_rfl) (by rw [cell_blk hE8]; rfl), ?_, .inr ⟨k, hk, rfl⟩⟩
    exact ((z.fr.trans f7 fun q hq e => by omega).trans f8 fun q hq e => by omega).mono fun q hq h => by omega
  have hpan : ∀ {ch : List PanicEntry}, IsPan ch → ∀ {lf : Sl} {w' : World}, ZSt w lf w' → CallsD Tryd.prog F_zip_Read_1 #[.pointer (some ⟨w.heap.size, 0, none⟩), .pointer (some ⟨w.heap.size + 1, 0, none⟩)] (.panicking ch) w' fun en u w8 => (∃ v, en = .returned v) ∧ settle u = .returning ∧
      ∃ l : Sl, (loadVar T_S_api_File ⟨w.heap.size, 0, none⟩).run Tryd.prog w8 = .ok (.slice l.a l.len l.cap) w8 ∧ ∃ n : Int, (loadVar T_api_Errno ⟨w.heap.size + 1, 0, none⟩).run Tryd.prog w8 = .ok (.int .i64 n) w8 ∧ ReadR s w (.tuple #[.slice l.a l.len l.cap, .int .i64 n]) w8 := by
    rintro ch ⟨k, hk, rfl⟩ lf w' z
    refine (catch_pan z.A z.E (by omega) k).mono ?_
    rintro en u w8 ⟨rfl, hu, rfl⟩
    exact ⟨⟨_, rfl⟩, hu, ((bad k hk z).2 _ rfl).2 _ rfl⟩
  refine ⟨fun h => (bad 2 (by decide) z2), fun hbig => ⟨fun h => (bad 6 (by decide) z2), fun hsm w11 h11 => ?_⟩⟩
  have hbig := of_decide_eq_false hbig
  have hsm := of_decide_eq_false hsm
  have e22 : IntKind.i64.wrap ((s.size : Int) - 22) = ((s.size - 22 : Nat) : Int) := by rw [wrap_i64 (by omega) (by omega)]; omega
  rw [e22] at h11
  have z11 : ZSt w ⟨none, 0, 0⟩ w11 := z2.step0 (by rw [h11]; exact .alloc _ _ _)
  have r11 : RdR w11 (w.heap.size + 2) s (s.data.toList.drop (s.size - 22)) (s.size - 22) := ⟨by rw [h11, ← s2]; exact alloc_new w2 _, rfl, by omega⟩
  clear h1 h2 h11 z2 f1 f2
  have hB2 : w.heap.size + 2 ≤ w.heap.size + 2 := Nat.le_refl _
  have c4 : ∀ u v p q : UInt8, (ByteArray.mk #[u, v, p, q]).size = 4 := fun _ _ _ _ => rfl
  refine (two_spec 0 (by decide) w11).mono ?_
  rintro e w13 ⟨rfl, f13⟩
  refine .inl ⟨_, rfl, by simp only [le_size, c4]; omega, (two_spec 0 (by decide) w13).mono ?_⟩
  rintro e w16 ⟨rfl, f16⟩
  have z16 := z11.step0 (f13.trans' f16)
  refine .inl ⟨_, rfl, by simp only [ByteArray.size_append, le_size, c4]; omega, (want_x (r11.keep (f13.trans' f16) (by simp)) (by simp only [ByteArray.size_append, le_size, c4]; omega) hsb).mono ?_⟩
  rintro e w19 ⟨f19, ⟨q19, hq19, rfl, r19⟩ | ⟨ch, hch, rfl⟩⟩
  rotate_left
  · exact .inr ⟨_, rfl, hpan hch (z16.stepB f19 hB2)⟩
  have z19 := z16.stepB f19 hB2
  refine .inl ⟨rfl, (number_x r19 (by decide) hsb).mono ?_⟩
  rintro e w21 ⟨f21, ⟨n, q21, hn, hq21, rfl, r21⟩ | ⟨ch, hch, rfl⟩⟩
  rotate_left
  · exact .inr ⟨_, rfl, hpan hch (z19.stepB f21 hB2)⟩
  have z21 := z19.stepB f21 hB2
  refine .inl ⟨_, rfl, (number_x r21 (by decide) hsb).mono ?_⟩
  rintro e w24 ⟨f24, ⟨n2, q24, hn2, hq24, rfl, r24⟩ | ⟨ch, hch, rfl⟩⟩
  rotate_left
  · exact .inr ⟨_, rfl, hpan hch (z21.stepB f24 hB2)⟩
  have z24 := z21.stepB f24 hB2
  refine .inl ⟨_, rfl, (number_x r24 (by decide) hsb).mono ?_⟩
  rintro e w27 ⟨f27, ⟨sz, q27, hsz, hq27, rfl, r27⟩ | ⟨ch, hch, rfl⟩⟩
  rotate_left
  · exact .inr ⟨_, rfl, hpan hch (z24.stepB f27 hB2)⟩
  have z27 := z24.stepB f27 hB2
  refine .inl ⟨_, rfl, (number_x r27 (by decide) hsb).mono ?_⟩
  rintro e w30 ⟨f30, ⟨fr, q30, hfr, hq30, rfl, r30⟩ | ⟨ch, hch, rfl⟩⟩
  rotate_left
  · exact .inr ⟨_, rfl, hpan hch (z27.stepB f30 hB2)⟩
  have z30 := z27.stepB f30 hB2
  refine .inl ⟨_, rfl, (two_spec 0 (by decide) w30).mono ?_⟩
  rintro e w33 ⟨rfl, f33⟩
  have z33 := z30.step0 f33
  refine .inl ⟨_, rfl, (want_x (r30.keep f33 (by simp)) (by simp only [le_size]; omega) hsb).mono ?_⟩
  rintro e w36 ⟨f36, ⟨q36, hq36, rfl, r36⟩ | ⟨ch, hch, rfl⟩⟩
  rotate_left
  · exact .inr ⟨_, rfl, hpan hch (z33.stepB f36 hB2)⟩
  have z36 := z33.stepB f36 hB2
  have b36 := r36.1
  -- the closing part
  have hend : s.data.toList.drop (s.size - 22) = [80, 75, 5, 6] ++ (littleB 2 0 ++ (littleB 2 0 ++ (littleB 2 n ++ (littleB 2 n2 ++ (littleB 4 sz ++ (littleB 4 fr ++ (littleB 2 0 ++ q36))))))) := by
    rw [hq19, hq21, hq24, hq27, hq30, hq36]
    simp only [bs_app, List.append_assoc]
  have hq0 : q36 = [] := by
    have := congrArg List.length hend
    simp only [List.length_drop, bs_len, List.length_append, littleB_length, List.length_cons, List.length_nil] at this
    exact List.length_eq_zero_iff.1 (by omega)
  rw [hq0, List.append_nil] at hend
  clear hq19 hq21 hq24 hq27 hq30 hq36 hq0 r11 r19 r21 r24 r27 r30 r36 z11 z16 z19 z21 z24 z27 z30 z33 f13 f16 f19 f21 f24 f27 f30 f33 f36
  obtain ⟨v36, hv36, hvs⟩ : ∃ v : Array Value, w36.heap[w.heap.size + 2]? = some (.cells v T_zip_reader (0, 0)) ∧ v.size = 2 := ⟨_, b36, rfl⟩
  clear b36
  have hfr4 : fr < 4294967296 := hfr
  have hsz4 : sz < 4294967296 := hsz
  have ef : IntKind.i64.wrap ((fr : Int) + (sz : Int)) = ((fr + sz : Nat) : Int) := by rw [wrap_i64 (by omega) (by omega)]; omega
  refine .inl ⟨rfl, fun w' => w' = w36 ∧ n = n2 ∧ fr + sz = s.size - 22, ⟨fun hnn => (must_x _ 3 w36).mono ?_, fun hnn => (must_x _ 3 w36).mono ?_⟩, ?_⟩
  · rw [ef, e22]
    rintro e w39 ⟨rfl, ⟨hb, rfl⟩ | ⟨hb, rfl⟩⟩
    · have hb : ((fr + sz : Nat) : Int) = ((s.size - 22 : Nat) : Int) := by simpa using hb
      have hnn : (n : Int) = n2 := by simpa using hnn
      exact .inl ⟨rfl, rfl, by omega, by omega⟩
    · exact .inr ⟨_, rfl, hpan ⟨3, by decide, rfl⟩ z36⟩
  · rintro e w41 ⟨rfl, ⟨hb, rfl⟩ | ⟨hb, rfl⟩⟩
    · cases hb
    · exact .inr ⟨_, rfl, hpan ⟨3, by decide, rfl⟩ z36⟩
  rintro w42 ⟨rfl, hnn, hfs⟩
  subst hnn
  refine (must_x _ 2 w42).mono ?_
  rintro e w44 ⟨rfl, ⟨hn600, rfl⟩ | ⟨hb, rfl⟩⟩
  rotate_left
  · exact .inr ⟨_, rfl, hpan ⟨2, by decide, rfl⟩ z36⟩
  have hn600 := of_decide_eq_true hn600
  rw [e22, Int.toNat_natCast]
  refine .inl ⟨rfl, ⟨by omega, by omega⟩, wr_blk hv36 (by omega), fun w45 h45 => ?_⟩
  obtain ⟨s1', hs1'⟩ : ∃ x : ByteArray, s.extract 0 (s.size - 22) = x := ⟨_, rfl⟩
  rw [hs1'] at h45
  have hb45 : w45.heap[w.heap.size + 2]? = some (.cells (v36.setIfInBounds 0 (.string s1')) T_zip_reader (0, 0)) := by rw [h45, set_blk hv36]
  have hs1l : s1'.data.toList = s.data.toList.take (s.size - 22) := by rw [← hs1', bs_head]
  have hs1s : s1'.size = s.size - 22 := by rw [← bs_len, hs1l, List.length_take, bs_len]; omega
  refine ⟨wr_blk hb45 (by simp [hvs]), fun w46 h46 => ?_⟩
  have hb46 : w46.heap[w.heap.size + 2]? = some (.cells #[.string s1', .int .i64 (fr : Int)] T_zip_reader (0, 0)) := by
    rw [h46, set_blk hb45]
    congr 2
    refine Array.ext' ?_
    obtain ⟨a0, a1, ha⟩ : ∃ a0 a1, v36.toList = [a0, a1] := by
      obtain ⟨l⟩ := v36
      match l, hvs with
      | [a0, a1], _ => exact ⟨a0, a1, rfl⟩
    rw [Array.toList_setIfInBounds, Array.toList_setIfInBounds, ha]; rfl
  have f45 : Fr (· = w.heap.size + 2) w44 w45 := by rw [h45]; exact Fr.set (· = w.heap.size + 2) w44 (a := ⟨w.heap.size + 2, 0, none⟩) _ rfl
  have f46 : Fr (· = w.heap.size + 2) w45 w46 := by rw [h46]; exact Fr.set (· = w.heap.size + 2) w45 (a := ⟨w.heap.size + 2, 1, none⟩) _ rfl
  have z46 : ZSt w ⟨none, 0, 0⟩ w46 := (z36.stepB f45 hB2).stepB f46 hB2
  have r46 : RdR w46 (w.heap.size + 2) s1' (s1'.data.toList.drop fr) fr := ⟨hb46, rfl, by omega⟩
  clear hb45 hb46 h45 h46 hv36 z36 f45 f46
  have hs1b : s1'.size ≤ 4611686018427387904 := by omega
  generalize hBB : w.heap.size + 2 = B at *
  refine ⟨fun l i w' => ∃ (k kk : Nat) (hs : List HdZ) (rest : List UInt8), i = k ∧ k ≤ n ∧ hs.length = k ∧ (∀ h ∈ hs, HeadOK h.m h.c h.p h.z h.path.size) ∧ s1'.data.toList.drop fr = hs.flatMap cenH ++ rest ∧ ZSt w ⟨none, 0, 0⟩ w' ∧ RdR w' B s1' rest kk ∧ OwnK encH 7 w' (B + 1) T_zip_entry l hs, fun l i _ => n - i.toNat,
    ⟨0, fr, [], s1'.data.toList.drop fr, rfl, Nat.zero_le _, rfl, fun h hh => by simp at hh, rfl, z46, r46, OwnK.nil _ _ _⟩, ?_⟩
  clear z46 r46
  rintro l i w51 ⟨k, kk, hs, rest, rfl, hk, hhl, hok, hdrop, z51, r51, o51⟩
  refine ⟨fun hlt => ?_, fun hge => ?_⟩
  · have hlt := of_decide_eq_true hlt
    refine (two_spec 20 (by decide) w51).mono ?_
    rintro e w53 ⟨rfl, f53⟩
    have z53 := z51.step0 f53
    refine .inl ⟨_, rfl, by simp only [le_size, c4]; omega, (want_x (r51.keep f53 (by simp)) (by simp only [ByteArray.size_append, le_size, c4]; omega) hs1b).mono ?_⟩
    rintro e w56 ⟨f56, ⟨q56, hq56, rfl, r56⟩ | ⟨ch, hch, rfl⟩⟩
    rotate_left
    · exact .inr ⟨_, rfl, hpan hch (z53.stepB f56 (by omega))⟩
    have z56 := z53.stepB f56 (by omega)
    refine .inl ⟨rfl, (head_x r56 hs1b).mono ?_⟩
    rintro e w58 ⟨f58, ⟨m, c, p, z, nm, q58, hhd, hq58, rfl, r58⟩ | ⟨ch, hch, rfl⟩⟩
    rotate_left
    · exact .inr ⟨_, rfl, hpan hch (z56.stepB f58 (by omega))⟩
    have z58 := z56.stepB f58 (by omega)
    refine .inl ⟨_, _, _, _, _, rfl, fun w64 h64 => ?_⟩
    have hCB := lt_blk r58.1
    have f64 : Fr (fun _ => False) w58 w64 := by rw [h64]; exact .alloc _ _ _
    have hC64 : w64.heap[w58.heap.size]? = some (.cells #[.int .i64 0, .int .u32 0, .int .i64 0, .int .i64 0, .int .i64 0, .string ⟨#[]⟩, .int .i64 0] T_zip_entry (0, 0)) := by rw [h64]; exact alloc_new _ _
    have s51 := ((f53.mono (Y := (· = B)) fun _ _ h => h.elim).trans' (f56.trans' f58)).size
    have o58 := ((o51.keep f53 (by simp)).keep f56 fun q hq e => by have := (o51.blk hq).1; omega).keep f58 fun q hq e => by have := (o51.blk hq).1; omega
    have ho58 : ∀ q, l.a = some q → q.block < w51.heap.size := fun q hq => (o51.blk hq).2
    clear h64
    obtain ⟨w65, hrun65, hC65, f65⟩ := box_store (headV m c p z nm ++ [.string ⟨#[]⟩, .int .i64 0]) hC64 (by kernel_rfl) rfl (fun v hv => by
      rcases List.mem_append.1 hv with h | h
      · exact headV_one _ _ _ _ _ v h
      · simp only [List.mem_cons, List.mem_nil_iff, or_false] at h
        rcases h with rfl | rfl <;> rfl)
    generalize w58.heap.size = C at *
    refine ⟨w65, hrun65, (two_spec 0 (by decide) w65).mono ?_⟩
    have r65 := (r58.keep f64 (by simp)).keep f65 (by omega)
    have z65 := (z58.step0 f64).stepB f65 (by omega)
    have o65 := (o58.keep f64 (by simp)).keep f65 fun q hq e => by have := ho58 q hq; omega
    rintro e w67 ⟨rfl, f67⟩
    refine .inl ⟨_, rfl, (two_spec 0 (by decide) w67).mono ?_⟩
    rintro e w70 ⟨rfl, f70⟩
    refine .inl ⟨_, rfl, by simp only [le_size]; omega, (two_spec 0 (by decide) w70).mono ?_⟩
    rintro e w73 ⟨rfl, f73⟩
    refine .inl ⟨_, rfl, by simp only [ByteArray.size_append, le_size]; omega, (four_spec 0 (by decide) w73).mono ?_⟩
    rintro e w76 ⟨rfl, f76⟩
    have f65_76 := ((f67.trans' f70).trans' f73).trans' f76
    have z76 := z65.step0 f65_76
    refine .inl ⟨_, rfl, by simp only [ByteArray.size_append, le_size]; omega, (want_x (r65.keep f65_76 (by simp)) (by simp only [ByteArray.size_append, le_size]; omega) hs1b).mono ?_⟩
    rintro e w79 ⟨f79, ⟨q79, hq79, rfl, r79⟩ | ⟨ch, hch, rfl⟩⟩
    rotate_left
    · exact .inr ⟨_, rfl, hpan hch (z76.stepB f79 (by omega))⟩
    have z79 := z76.stepB f79 (by omega)
    refine .inl ⟨rfl, (number_x r79 (by decide) hs1b).mono ?_⟩
    rintro e w81 ⟨f81, ⟨off, q81, hoff, hq81, rfl, r81⟩ | ⟨ch, hch, rfl⟩⟩
    rotate_left
    · exact .inr ⟨_, rfl, hpan hch (z79.stepB f81 (by omega))⟩
    have z81 := z79.stepB f81 (by omega)
    have f76_81 := f79.trans' f81
    have hC81 := f76_81.keep (f65_76.keep hC65 (by simp)) (by omega)
    have o81 := (o65.keep f65_76 (by simp)).keep f76_81 fun q hq e => by have := (o51.blk hq).1; omega
    refine .inl ⟨_, rfl, wr_blk hC81 (Nat.lt_of_lt_of_eq (by decide : 6 < 7) rfl), fun w83 h83 => ?_⟩
    have hC83 : w83.heap[C]? = some (.cells (headV m c p z nm ++ [Value.string ⟨#[]⟩, Value.int .i64 (off : Int)]).toArray T_zip_entry (0, 0)) := by rw [h83, set_blk hC81]; rfl
    have f83 : Fr (· = C) w81 w83 := by rw [h83]; exact Fr.set (· = C) w81 (a := ⟨C, 6, none⟩) _ rfl
    have z83 := z81.stepB f83 (by omega)
    have hnm4 : nm < 65536 := hhd.2.2.2.2
    refine ⟨nm, by rw [cell_blk hC83]; rfl, (take_x (r81.keep f83 (by omega)) (by omega) hs1b).mono ?_⟩
    rintro e w86 ⟨f86, ⟨t, q86, hq86, ht, rfl, r86⟩ | ⟨ch, hch, rfl⟩⟩
    rotate_left
    · exact .inr ⟨_, rfl, hpan hch (z83.stepB f86 (by omega))⟩
    have z86 := z83.stepB f86 (by omega)
    have hC86 := f86.keep hC83 (by omega)
    obtain ⟨hd, hhdd⟩ : ∃ hd : HdZ, hd = ⟨m, c, p, z, ⟨t.toArray⟩, off⟩ := ⟨_, rfl⟩
    have hts : (ByteArray.mk t.toArray).size = nm := by rw [bs_mksize]; exact ht
    refine .inl ⟨_, rfl, wr_blk hC86 (Nat.lt_of_lt_of_eq (by decide : 5 < 7) rfl), fun w88 h88 => ?_⟩
    have hC88 : w88.heap[C]? = some (.cells (encH hd).toArray T_zip_entry (0, 0)) := by
      have henc : encH hd = headV m c p z nm ++ [Value.string ⟨t.toArray⟩, Value.int .i64 (off : Int)] := by
        rw [hhdd]; unfold encH headH; rw [hts]
      rw [h88, set_blk hC86, henc]; rfl
    have f88 : Fr (· = C) w86 w88 := by rw [h88]; exact Fr.set (· = C) w86 (a := ⟨C, 5, none⟩) _ rfl
    have z88 := z86.stepB f88 (by omega)
    have o88 := ((o81.keep f83 fun q hq e => by have := ho58 q hq; omega).keep f86 fun q hq e => by have := (o51.blk hq).1; omega).keep f88 fun q hq e => by have := ho58 q hq; omega
    have r88 := r86.keep f88 (by omega)
    refine ⟨_, _, _, _, _, _, _, box_load hC88 (by kernel_rfl) (by kernel_rfl), fun w96 h96 => ?_⟩
    have hb88 := lt_blk r88.1
    obtain ⟨w97, l98, hr97, o97, f97, _⟩ := append_oneK elH o88 (x := hd) (by unfold maxLen; omega) (by omega) (by omega) h96
    have e1 : IntKind.i64.wrap ((k : Int) + 1) = ((k + 1 : Nat) : Int) := by rw [wrap_i64 (by omega) (by omega)]; omega
    rw [e1]
    refine ⟨w97, l98, hr97, ⟨k + 1, _, hs ++ [hd], q86, rfl, by omega, by rw [List.length_append, hhl]; rfl, fun h hh => ?_, ?_, z88.step f97 ?_, r88.keep f97 (by rintro ⟨y, hy, e⟩; have := (o51.blk hy).1; omega), o97⟩, by dsimp only; omega⟩
    · rcases List.mem_append.1 hh with hh | hh
      · exact hok h hh
      · rw [List.mem_singleton] at hh
        subst hh
        rw [hhdd]
        show HeadOK m c p z (ByteArray.mk t.toArray).size
        rw [hts]; exact hhd
    · rw [hdrop, hq56, hq58, hq79, hq81, hq86, List.flatMap_append, hhdd]
      simp only [List.flatMap_cons, List.flatMap_nil, List.append_nil]
      unfold cenH
      rw [hts]
      simp only [bs_app, List.append_assoc]
    · rintro q _ ⟨y, hy, e⟩; have := (o51.blk hy).1; omega
  · have hge := of_decide_eq_false hge
    have hk' : k = n := by omega
    subst hk'
    have hkk := r51.size
    intro w99 d99
    have f99 : Fr (fun _ => False) w51 w99 := .drew _ d99
    have z99 := z51.step0 f99
    have r99 := r51.keep f99 (by simp)
    have o99 := o51.keep f99 (by simp)
    refine ⟨fun w' => RdR w' B s1' rest kk, r99, kk, fun w' h => by rw [cell_blk h.1]; rfl, s1', fun w' h => by rw [cell_blk h.1]; rfl, (must_x _ 3 w99).mono ?_⟩
    rintro e w106 ⟨rfl, ⟨hat, rfl⟩ | ⟨hb, rfl⟩⟩
    rotate_left
    · exact .inr ⟨_, rfl, hpan ⟨3, by decide, rfl⟩ z99⟩
    have hat : (kk : Int) = (s1'.size : Int) := by simpa using hat
    have hrest0 : rest = [] := List.length_eq_zero_iff.1 (by omega)
    subst hrest0
    rw [List.append_nil] at hdrop
    refine .inl ⟨rfl, ⟨by omega, by omega⟩, wr_blk r99.1 (Nat.lt_of_lt_of_eq (by decide : 0 < 2) rfl), fun w107 h107 => ?_⟩
    rw [Int.toNat_natCast] at h107
    obtain ⟨s2', hs2'⟩ : ∃ x : ByteArray, s.extract 0 fr = x := ⟨_, rfl⟩
    rw [hs2'] at h107
    have hb107 : w107.heap[B]? = some (.cells #[.string s2', .int .i64 (kk : Int)] T_zip_reader (0, 0)) := by rw [h107, set_blk r99.1]; rfl
    have f107 : Fr (· = B) w106 w107 := by rw [h107]; exact Fr.set (· = B) w106 (a := ⟨B, 0, none⟩) _ rfl
    refine ⟨wr_blk hb107 (Nat.lt_of_lt_of_eq (by decide : 1 < 2) rfl), fun w108 h108 => ?_⟩
    have hb108 : w108.heap[B]? = some (.cells #[.string s2', .int .i64 ((0 : Nat) : Int)] T_zip_reader (0, 0)) := by rw [h108, set_blk hb107]; rfl
    have f108 : Fr (· = B) w107 w108 := by rw [h108]; exact Fr.set (· = B) w107 (a := ⟨B, 1, none⟩) _ rfl
    have hs2l : s2'.data.toList = s.data.toList.take fr := by rw [← hs2', bs_head]
    have hs2s : s2'.size = fr := by rw [← bs_len, hs2l, List.length_take, bs_len]; omega
    have hs2b : s2'.size ≤ 4611686018427387904 := by omega
    have z108 := (z99.stepB f107 (by omega)).stepB f108 (by omega)
    have hlB : ∀ q, l.a = some q → B + 1 ≤ q.block := fun q hq => (o51.blk hq).1
    have o108 := (o99.keep f107 fun q hq e => by have := hlB q hq; omega).keep f108 fun q hq e => by have := hlB q hq; omega
    have r108 : RdR w108 B s2' s2'.data.toList 0 := ⟨hb108, rfl, Nat.zero_le _⟩
    clear hb107 hb108 h107 h108 f107 f108 o51 r51 z51 z99 r99 o99 f99
    have hll : l.len = hs.length := o108.len
    refine ⟨fun all i w' => ∃ (j : Nat) (lf : Sl) (es : List EntZ) (rest : List UInt8), i = j ∧ j ≤ hs.length ∧ es.length = j ∧ (∀ x ∈ es, KeptZ x) ∧ hs.take j = (entsZ 0 es).map hdZ ∧ s2'.data.toList = outZ es ++ rest ∧ all = (totalF (es.map filZ) : Int) ∧ totalF (es.map filZ) ≤ 1048576 ∧ ZSt w lf w' ∧ RdR w' B s2' rest (outZ es).length ∧ OwnK encH 7 w' (B + 1) T_zip_entry l hs ∧ OwnK encF 2 w' (B + 1) T_api_File lf (es.map filZ) ∧ (∀ p q, l.a = some p → lf.a = some q → p.block ≠ q.block), fun all i _ => hs.length - i.toNat,
      ⟨0, ⟨none, 0, 0⟩, [], s2'.data.toList, rfl, Nat.zero_le _, rfl, fun x hx => by simp at hx, rfl, rfl, rfl, Nat.zero_le _, z108, r108, o108, OwnK.nil _ _ _, fun p q hp hq => by cases hq⟩, ?_⟩
    clear z108 r108 o108
    rintro all i w113 ⟨j, lf, es, rest, rfl, hj, hel, hkept, hhs, htxt, rfl, htl, z113, r113, o113, p113, hdis⟩
    have hBw := lt_blk r113.1
    refine ⟨fun hlt => ?_, fun hge => ?_⟩
    · have hlt := of_decide_eq_true hlt
      have hjl : j < hs.length := by omega
      have hhj : hs[j]? = some hs[j] := List.getElem?_eq_getElem hjl
      generalize hs[j] = h at hhj
      have hhok := hok h (List.mem_of_getElem? hhj)
      obtain ⟨hm4, hc4, hp4, hz4, hpn4⟩ := hhok
      have htk : hs.take (j + 1) = hs.take j ++ [h] := by rw [List.take_add_one, hhj]; rfl
      obtain ⟨a114, ha114, hrun114⟩ := (o113.reads elH.len).load elH hhj
      rw [Int.toNat_natCast]
      refine ⟨⟨by omega, by omega⟩, a114, ha114, _, _, _, _, _, _, _, hrun114, fun w122 h122 => ?_⟩
      have f122 : Fr (fun _ => False) w113 w122 := by rw [h122]; exact .alloc _ _ _
      have hD122 : w122.heap[w113.heap.size]? = some (.cells #[.int .i64 0, .int .u32 0, .int .i64 0, .int .i64 0, .int .i64 0, .string ⟨#[]⟩, .int .i64 0] T_zip_entry (0, 0)) := by rw [h122]; exact alloc_new _ _
      clear h122
      obtain ⟨w123, hrun123, hD123, f123⟩ := box_store (encH h) hD122 (by kernel_rfl) rfl (encH_one _)
      have hlD : ∀ q, l.a = some q → q.block < w113.heap.size := fun q hq => (o113.blk hq).2
      have hpD : ∀ q, lf.a = some q → q.block < w113.heap.size := fun q hq => (p113.blk hq).2
      have hlB' : ∀ q, l.a = some q → B + 1 ≤ q.block := fun q hq => (o113.blk hq).1
      have hpB : ∀ q, lf.a = some q → B + 1 ≤ q.block := fun q hq => (p113.blk hq).1
      generalize hDD : w113.heap.size = D at *
      have z123 := (z113.step0 f122).stepB f123 (by omega)
      have r123 := (r113.keep f122 (by simp)).keep f123 (by omega)
      have o123 := (o113.keep f122 (by simp)).keep f123 fun q hq e => by have := hlD q hq; omega
      have p123 := (p113.keep f122 (by simp)).keep f123 fun q hq e => by have := hpD q hq; omega
      refine ⟨w123, hrun123, fun w124 d124 => ?_⟩
      have f124 : Fr (fun _ => False) w123 w124 := .drew _ d124
      have hD124 := f124.keep hD123 (by simp)
      have z124 := z123.step0 f124
      have r124 := r123.keep f124 (by simp)
      have o124 := o123.keep f124 (by simp)
      have p124 := p123.keep f124 (by simp)
      clear z113 r113 o113 p113 z123 r123 o123 p123 f122 f123 hD122 hD123
      have hcl : ∀ {w' : World}, w'.heap[D]? = some (.cells (encH h).toArray T_zip_entry (0, 0)) → ∀ {j : Nat} {v : Value}, (encH h)[j]? = some v → w'.cell? ⟨D, j, none⟩ = some v := fun hf j v hv => by
        rw [cell_blk hf]; simpa using hv
      refine ⟨fun w' => w' = w124, rfl, h.off, fun w' e => by rw [e]; exact hcl hD124 (j := 6) rfl, (outZ es).length, fun w' e => by rw [e, cell_blk r124.1]; rfl, (must_x _ 3 w124).mono ?_⟩
      rintro e w131 ⟨rfl, ⟨hoff, rfl⟩ | ⟨hb, rfl⟩⟩
      rotate_left
      · exact .inr ⟨_, rfl, hpan ⟨3, by decide, rfl⟩ z124⟩
      have hoff : (h.off : Int) = ((outZ es).length : Int) := by simpa using hoff
      refine .inl ⟨rfl, (want_x r124 (by simp only [c4]; omega) hs2b).mono ?_⟩
      rintro e w133 ⟨f133, ⟨q133, hq133, rfl, r133⟩ | ⟨ch, hch, rfl⟩⟩
      rotate_left
      · exact .inr ⟨_, rfl, hpan hch (z124.stepB f133 (by omega))⟩
      have z133 := z124.stepB f133 (by omega)
      have hD133 := f133.keep hD124 (by omega)
      refine .inl ⟨rfl, fun w134 d134 => ?_⟩
      have f134 : Fr (fun _ => False) w133 w134 := .drew _ d134
      have z134 := z133.step0 f134
      have hD134 := f134.keep hD133 (by simp)
      have hld76 : ∀ {w' : World}, w'.heap[D]? = some (.cells (encH h).toArray T_zip_entry (0, 0)) → (loadVar T_zip_head ⟨D, 0, none⟩).run Tryd.prog w' = .ok (.agg (headH h).toArray) w' := fun hh =>
        load_agg (agg_of (by kernel_rfl)) (by kernel_rfl) fun j v hv => by
          rw [show (⟨D, 0, none⟩ : Addr).add j = ⟨D, j, none⟩ by rw [add_lit, Nat.zero_add]]
          refine hcl hh ?_
          unfold encH
          rw [List.getElem?_append_left (List.getElem?_eq_some_iff.1 hv).1]
          exact hv
      refine ⟨fun w' => w'.heap[D]? = some (.cells (encH h).toArray T_zip_entry (0, 0)), hD134, _, _, _, _, _, fun w' hh => hld76 hh, (head_x (r133.keep f134 (by simp)) hs2b).mono ?_⟩
      rintro e w143 ⟨f143, ⟨m, c, p, z, nm, q143, hhd, hq143, rfl, r143⟩ | ⟨ch, hch, rfl⟩⟩
      rotate_left
      · exact .inr ⟨_, rfl, hpan hch (z134.stepB f143 (by omega))⟩
      have z143 := z134.stepB f143 (by omega)
      have hD143 := f143.keep hD134 (by omega)
      refine .inl ⟨_, _, _, _, _, rfl, hD143, (must_x _ 3 w143).mono ?_⟩
      rintro e w150 ⟨rfl, ⟨heq, rfl⟩ | ⟨hb, rfl⟩⟩
      rotate_left
      · exact .inr ⟨_, rfl, hpan ⟨3, by decide, rfl⟩ z143⟩
      have heq : (m : Int) = h.m ∧ (c : Int) = h.c ∧ (p : Int) = h.p ∧ (z : Int) = h.z ∧ (nm : Int) = h.path.size := by simpa [Bool.and_eq_true] using heq
      obtain ⟨em, ec, ep, ez, en⟩ := heq
      have em : m = h.m := by omega
      have ec : c = h.c := by omega
      have ep : p = h.p := by omega
      have ez : z = h.z := by omega
      have en : nm = h.path.size := by omega
      subst em ec ep ez en
      refine .inl ⟨rfl, h.path, hcl hD143 (j := 5) rfl, (want_x r143 (by omega) hs2b).mono ?_⟩
      rintro e w153 ⟨f153, ⟨q153, hq153, rfl, r153⟩ | ⟨ch, hch, rfl⟩⟩
      rotate_left
      · exact .inr ⟨_, rfl, hpan hch (z143.stepB f153 (by omega))⟩
      have z153 := z143.stepB f153 (by omega)
      have hD153 := f153.keep hD143 (by omega)
      refine .inl ⟨rfl, h.p, hcl hD153 (j := 2) rfl, (take_x r153 (by omega) hs2b).mono ?_⟩
      rintro e w156 ⟨f156, ⟨t, q156, hq156, ht, rfl, r156⟩ | ⟨ch, hch, rfl⟩⟩
      rotate_left
      · exact .inr ⟨_, rfl, hpan hch (z153.stepB f156 (by omega))⟩
      have z156 := z153.stepB f156 (by omega)
      have hD156 := f156.keep hD153 (by omega)
      have e2 : IntKind.i64.wrap ((totalF (es.map filZ) : Int) + (h.z : Int)) = ((totalF (es.map filZ) + h.z : Nat) : Int) := by rw [wrap_i64 (by omega) (by omega)]; omega
      refine .inl ⟨_, rfl, h.z, hcl hD156 (j := 3) rfl, ?_⟩
      rw [e2]
      refine (must_x _ 2 w156).mono ?_
      rintro e w160 ⟨rfl, ⟨hall, rfl⟩ | ⟨hb, rfl⟩⟩
      rotate_left
      · exact .inr ⟨_, rfl, hpan ⟨2, by decide, rfl⟩ z156⟩
      have hall := of_decide_eq_true hall
      have f124_156 : Fr (· = B) w131 w160 := (((f133.trans' (f134.mono fun _ _ h => h.elim)).trans' f143).trans' f153).trans' f156
      have o160 := o124.keep f124_156 fun q hq e => by have := hlB' q hq; omega
      have p160 := p124.keep f124_156 fun q hq e => by have := hpB q hq; omega
      refine .inl ⟨rfl, fun w161 d161 => ?_⟩
      have f161 : Fr (fun _ => False) w160 w161 := .drew _ d161
      have z161 := z156.step0 f161
      have hD161 := f161.keep hD156 (by simp)
      refine ⟨fun w' => ZSt w lf w' ∧ w'.heap[D]? = some (.cells (encH h).toArray T_zip_entry (0, 0)), ⟨z161, hD161⟩, lf, fun w' hh => by rw [cell_blk hh.1.A]; rfl, h.path, fun w' hh => hcl hh.2 (j := 5) rfl, _, _, _, _, _, _, _, fun w' hh => box_load hh.2 (by kernel_rfl) (by kernel_rfl), ?_⟩
      have hds : (ByteArray.mk t.toArray).size = h.p := by rw [bs_mksize]; exact ht
      refine (unpack_x (n := h.path.size) ⟨hm4, hc4, hp4, hz4, hpn4⟩ h.path h.off ⟨t.toArray⟩ hds w161).mono ?_
      rintro e w176 ⟨f176, ⟨dd, rfl, hcrc, hkd⟩ | ⟨ch, hch, rfl⟩⟩
      rotate_left
      · exact .inr ⟨_, rfl, hpan hch (z161.step0 f176)⟩
      have z176 := z161.step0 f176
      have hD176 := f176.keep hD161 (by simp)
      obtain ⟨x, hx⟩ : ∃ x : EntZ, x = ⟨h.m, h.path, dd, ⟨t.toArray⟩⟩ := ⟨_, rfl⟩
      have hddz : dd.size = h.z := by
        rcases hkd with ⟨_, h1, h2⟩ | ⟨_, h1⟩
        · rw [h1, hds]; exact h2
        · exact h1
      have hhx : hdZ (x, (outZ es).length) = h := by
        rw [hx]
        unfold hdZ
        simp only
        rw [hcrc, hds, hddz, show (outZ es).length = h.off by omega]
      have hkx : KeptZ x := by
        rw [hx]
        rcases hkd with ⟨h0, h1, _⟩ | ⟨h0, _⟩
        · exact .inl ⟨h0, h1.symm⟩
        · exact .inr h0
      have hloc : rest = locZ x ++ q156 := by
        rw [hq133, hq143, hq153, hq156, hx]
        unfold locZ factZ
        simp only
        rw [hcrc, hds, hddz]
        simp only [List.append_assoc]
      refine .inl ⟨_, rfl, ⟨z176, hD176⟩, fun w178 h178 => ?_⟩
      have f178 : Fr (fun _ => False) w176 w178 := by rw [h178]; exact .alloc _ _ _
      have o176 := (o160.keep f161 (by simp)).keep f176 (by simp)
      have p176 := (p160.keep f161 (by simp)).keep f176 (by simp)
      have r176 := (r156.keep f161 (by simp)).keep f176 (by simp)
      have hD_w := lt_blk hD176
      have hfx : filZ x = ⟨h.path, dd⟩ := by rw [hx]; rfl
      obtain ⟨w179, l180, hr179, p179, f179, s179⟩ := append_oneK (w2 := w178) elF p176 (x := filZ x) (by rw [List.length_map]; unfold maxLen; omega) (by first | (rw [List.length_map]; done) | (rw [List.length_map]; omega)) (by omega) (by rw [hfx]; exact h178)
      have hnD : ∀ q, Vc.At lf q → B + 1 ≤ q ∧ q < D := fun q ⟨y, hy, e⟩ => ⟨e ▸ hpB y hy, e ▸ hpD y hy⟩
      refine ⟨⟨z176.step0 f178, f178.keep hD176 (by simp)⟩, w179, l180, hr179, ⟨z176.step f179 fun q _ hq => by have := hnD q hq; omega, f179.keep hD176 fun hq => by have := hnD _ hq; omega⟩, ?_⟩
      have z179 := z176.step f179 fun q _ hq => by have := hnD q hq; omega
      refine ⟨wr_blk z179.A (Nat.lt_succ_self 0), fun w181 h181 => ?_⟩
      have hAB : w.heap.size + 2 = B := hBB
      have f181 : Fr (· = w.heap.size) w179 w181 := by rw [h181]; exact Fr.set (· = w.heap.size) w179 (a := ⟨w.heap.size, 0, none⟩) _ rfl
      have z181 : ZSt w l180 w181 := ⟨z179.fr.trans f181 fun q hq e => by omega, by rw [h181, set_blk z179.A]; rfl, f181.keep z179.E (by omega)⟩
      have hl180 : ∀ q, l180.a = some q → (∃ y, lf.a = some y ∧ y.block = q.block) ∨ w176.heap.size ≤ q.block := fun q hq => by
        rcases s179 q hq with ⟨y, hy, e⟩ | h
        · exact .inl ⟨y, hy, e⟩
        · exact .inr h
      have e1 : IntKind.i64.wrap ((j : Int) + 1) = ((j + 1 : Nat) : Int) := by rw [wrap_i64 (by omega) (by omega)]; omega
      have hxs : (filZ x).data.size = h.z := by rw [hfx]; exact hddz
      have htot : totalF ((es ++ [x]).map filZ) = totalF (es.map filZ) + h.z := by
        unfold totalF
        rw [List.map_append, List.map_append, List.sum_append]
        simp [hxs]
      have hlen : (outZ (es ++ [x])).length = (outZ es).length + (ByteArray.mk #[80, 75, 3, 4]).size + 26 + h.path.size + h.p := by
        rw [outZ_snoc, List.length_append, locZ_len, hx]
        simp only [c4, hds]; omega
      rw [e1]
      refine ⟨⟨j + 1, l180, es ++ [x], q156, rfl, by omega, by rw [List.length_append, hel]; rfl, fun y hy => ?_, ?_, ?_, by rw [htot], by omega, z181, ?_, (o176.keep f179 fun q hq ⟨y, hy, e⟩ => hdis q y hq hy e).keep f181 fun q hq e => by have := hlB' q hq; omega, by rw [List.map_append]; exact p179.keep f181 fun q hq e => by have := (p179.blk hq).1; omega, fun p q hp hq => ?_⟩, by dsimp only; omega⟩
      · rcases List.mem_append.1 hy with hy | hy
        · exact hkept y hy
        · rw [List.mem_singleton] at hy; subst hy; exact hkx
      · rw [htk, hhs, entsZ_snoc, List.map_append, Nat.zero_add]
        show _ ++ [h] = _ ++ [hdZ (x, (outZ es).length)]
        rw [hhx]
      · rw [htxt, hloc, outZ_snoc, List.append_assoc]
      · rw [hlen]
        exact (r176.keep f179 fun hq => by have := hnD _ hq; omega).keep f181 (by omega)
      · rcases hl180 q hq with ⟨y, hy, e⟩ | h
        · rw [← e]; exact hdis p y hp hy
        · have := hlD p hp; omega
    · have hge := of_decide_eq_false hge
      have hj' : j = hs.length := by omega
      have hrs := r113.size
      refine ⟨(outZ es).length, by rw [cell_blk r113.1]; rfl, (must_x _ 3 w113).mono ?_⟩
      rintro e w184 ⟨rfl, ⟨hfin, rfl⟩ | ⟨hb, rfl⟩⟩
      rotate_left
      · exact .inr ⟨_, rfl, hpan ⟨3, by decide, rfl⟩ z113⟩
      have hfin : ((outZ es).length : Int) = (fr : Int) := by simpa using hfin
      have hr0 : rest = [] := List.length_eq_zero_iff.1 (by omega)
      subst hr0
      rw [List.append_nil] at htxt
      rw [hj', List.take_length] at hhs
      have hidx : s1'.data.toList.drop fr = idxZ 0 es := by rw [hdrop, hhs, idxZ_cen]
      have hpre : s1'.data.toList = outZ es ++ idxZ 0 es := by
        rw [← List.take_append_drop fr s1'.data.toList, hidx]
        congr 1
        rw [hs1l, List.take_take, Nat.min_eq_left (by omega), ← hs2l, htxt]
      have hsl : (idxZ 0 es).length = sz := by
        have := congrArg List.length hpre
        rw [bs_len, List.length_append, hs1s] at this
        omega
      have hsarc : s.data.toList = arcZ es := by
        rw [← List.take_append_drop (s.size - 22) s.data.toList, ← hs1l, hpre, hend]
        unfold arcZ endL
        have hof : (outZ es).length = fr := by omega
        have hen : es.length = k := by omega
        rw [hsl, hof, hen, List.append_assoc]
      have hyl : (es.map filZ).length = lf.len := p113.1
      refine .inl ⟨rfl, lf, by rw [cell_blk z113.A]; rfl, (zcheck_spec (c := lf.cap) (p113.reads elF.len) hyl (by rw [← hyl, List.length_map]; omega) (fun y hy => ?_) (by omega)).mono ?_⟩
      · obtain ⟨x, hx, rfl⟩ := List.mem_map.1 hy
        have hm : x.path.size ≤ (outZ es).length := by
          have : ∀ zs : List EntZ, x ∈ zs → x.path.size ≤ (outZ zs).length := fun zs => by
            induction zs with
            | nil => intro h; simp at h
            | cons a r ih =>
              intro h
              rw [outZ_cons, List.length_append, locZ_len]
              rcases List.mem_cons.1 h with rfl | h
              · omega
              · have := ih h; omega
          exact this es hx
        show x.path.size ≤ _
        omega
      rintro e w187 ⟨rfl, f187⟩
      have z187 := z113.step0 f187
      refine .inl ⟨_, rfl, fun hne => ?_, fun heq => ⟨lf, by rw [cell_blk z187.A]; rfl, wr_blk z187.A (Nat.lt_succ_self 0), fun w198 h198 => ?_⟩⟩
      · have hne : zchk (es.map filZ) ≠ 0 := by simpa using hne
        obtain ⟨hw1, hb⟩ := bad _ hne z187
        refine ⟨hw1, fun w189 h189 => ?_⟩
        obtain ⟨hw2, hb⟩ := hb w189 h189
        refine ⟨hw2, fun w190 h190 => (catch_idle _ _ w190).mono ?_⟩
        rintro e u w202 ⟨rfl, rfl, rfl⟩
        exact ⟨⟨_, rfl⟩, rfl, hb _ h190⟩
      have h0 : zchk (es.map filZ) = 0 := by simpa using heq
      have f198 : Fr (· = w.heap.size) w187 w198 := by rw [h198]; exact Fr.set (· = w.heap.size) w187 (a := ⟨w.heap.size, 0, none⟩) _ rfl
      have z198 : ZSt w lf w198 := ⟨z187.fr.trans f198 fun q hq e => by omega, by rw [h198, set_blk z187.A]; rfl, f198.keep z187.E (by omega)⟩
      refine ⟨wr_blk z198.E (Nat.lt_succ_self 0), fun w199 h199 => ?_⟩
      have f199 : Fr (· = w.heap.size + 1) w198 w199 := by rw [h199]; exact Fr.set (· = w.heap.size + 1) w198 (a := ⟨w.heap.size + 1, 0, none⟩) _ rfl
      have z199 : ZSt w lf w199 := ⟨z198.fr.trans f199 fun q hq e => by omega, f199.keep z198.A (by omega), by rw [h199, set_blk z198.E]; rfl⟩
      refine (catch_idle _ _ w199).mono ?_
      rintro e u w202 ⟨rfl, rfl, rfl⟩
      refine ⟨⟨_, rfl⟩, rfl, lf, load_one (by kernel_rfl) (by rw [cell_blk z199.A]; rfl), 0, load_one (by kernel_rfl) (by rw [cell_blk z199.E]; rfl), z199.fr.mono fun q hq h => by omega, .inl ⟨es, lf, hsarc, h0, hkept, rfl, ?_⟩⟩
      exact (((p113.keep f187 (by simp)).keep f198 fun q hq e => by have := (p113.blk hq).1; omega).keep f199 fun q hq e => by have := (p113.blk hq).1; omega).mono (by omega)
end Go.Proofs.YtlohadencnpdgaaDoor

/- No archive begins with another one. Conditions: paths and parts are no longer than an archive can say. -/
set_option linter.unusedVariables false
namespace Go.Proofs.YtlohadencnpdgaaDoor
open Go Vc SumM Go.Proofs

def szZ (x : EntZ) : Nat × Nat := (x.path.size, x.packed.size)
def OkZ (es : List EntZ) : Prop := ∀ x ∈ es, x.path.size < 65536 ∧ x.packed.size < 4294967296
theorem numL_inj {n x y : Nat} (hx : x < 256 ^ n) (hy : y < 256 ^ n) (h : littleB n x = littleB n y) : x = y := by
  have := congrArg numL h
  rwa [numL_little n x hx, numL_little n y hy] at this
theorem factsL_inj {m c p z n m' c' p' z' n' : Nat} (h : factsL m c p z n = factsL m' c' p' z' n') : littleB 4 p = littleB 4 p' ∧ littleB 2 n = littleB 2 n' := by
  unfold factsL at h
  have l2 : ∀ x y, (littleB 2 x).length = (littleB 2 y).length := fun x y => by rw [littleB_length, littleB_length]
  have l4 : ∀ x y, (littleB 4 x).length = (littleB 4 y).length := fun x y => by rw [littleB_length, littleB_length]
  have h1 := (List.append_inj h (l2 _ _)).2
  have h2 := (List.append_inj h1 (l2 _ _)).2
  have h3 := (List.append_inj h2 (l2 _ _)).2
  have h4 := (List.append_inj h3 (l2 _ _)).2
  have h5 := (List.append_inj h4 (l2 _ _)).2
  have h6 := (List.append_inj h5 (l4 _ _)).2
  have h7 := List.append_inj h6 (l4 _ _)
  have h8 := (List.append_inj h7.2 (l4 _ _)).2
  exact ⟨h7.1, (List.append_inj h8 (l2 _ _)).1⟩
theorem out_lock : ∀ (es fs : List EntZ) (A B : List UInt8), OkZ es → OkZ fs → outZ es ++ A = outZ fs ++ B → A.take 4 ≠ [80, 75, 3, 4] → B.take 4 ≠ [80, 75, 3, 4] → es.map szZ = fs.map szZ
  | [], [], A, B, _, _, _, _, _ => rfl
  | [], y :: r, A, B, _, _, h, hA, _ => by
    exfalso
    refine hA ?_
    have h : A = locZ y ++ outZ r ++ B := by rw [← outZ_cons]; simpa [outZ] using h
    rw [h]
    unfold locZ
    simp
  | x :: r, [], A, B, _, _, h, _, hB => by
    exfalso
    refine hB ?_
    have h : B = locZ x ++ outZ r ++ A := by rw [← outZ_cons]; simpa [outZ] using h.symm
    rw [h]
    unfold locZ
    simp
  | x :: r, y :: r', A, B, he, hf, h, hA, hB => by
    rw [outZ_cons, outZ_cons] at h
    unfold locZ at h
    simp only [List.append_assoc] at h
    have h1 := (List.append_inj h rfl).2
    have h2 := List.append_inj h1 (by rw [factZ_len, factZ_len])
    obtain ⟨hp, hn⟩ := factsL_inj h2.1
    obtain ⟨x1, x2⟩ := he x List.mem_cons_self
    obtain ⟨y1, y2⟩ := hf y List.mem_cons_self
    have ep := numL_inj (n := 4) x2 y2 hp
    have en := numL_inj (n := 2) x1 y1 hn
    have h3 := (List.append_inj h2.2 (by rw [bs_len, bs_len, en])).2
    have h4 := (List.append_inj h3 (by rw [bs_len, bs_len, ep])).2
    have ih := out_lock r r' A B (fun z hz => he z (List.mem_cons_of_mem _ hz)) (fun z hz => hf z (List.mem_cons_of_mem _ hz)) h4 hA hB
    rw [List.map_cons, List.map_cons, ih]
    unfold szZ
    rw [ep, en]
theorem outZ_len_map : ∀ es : List EntZ, (outZ es).length = ((es.map szZ).map fun q => 30 + q.1 + q.2).sum
  | [] => rfl
  | x :: r => by
    rw [outZ_cons, List.length_append, outZ_len_map r, locZ_len, List.map_cons, List.map_cons, List.sum_cons]; rfl
theorem idxZ_len_map : ∀ (off : Nat) (es : List EntZ), (idxZ off es).length = ((es.map szZ).map fun q => 46 + q.1).sum
  | _, [] => rfl
  | off, x :: r => by
    rw [idxZ, List.length_append, idxZ_len_map _ r, cenZ_len, List.map_cons, List.map_cons, List.sum_cons]; rfl
theorem arcZ_len (es : List EntZ) : (arcZ es).length = (outZ es).length + ((idxZ 0 es).length + 22) := by
  unfold arcZ
  rw [List.length_append, List.length_append, endL_len]
theorem arc_tail (es : List EntZ) (t : List UInt8) : (idxZ 0 es ++ endL es.length (idxZ 0 es).length (outZ es).length ++ t).take 4 ≠ [80, 75, 3, 4] := by
  cases es with
  | nil =>
    unfold endL
    simp [idxZ]
  | cons x r =>
    rw [idxZ]
    unfold cenZ
    simp
theorem arc_prefix {es fs : List EntZ} {t : List UInt8} (he : OkZ es) (hf : OkZ fs) (h : arcZ es ++ t = arcZ fs) : t = [] := by
  have hm := out_lock es fs (idxZ 0 es ++ endL es.length (idxZ 0 es).length (outZ es).length ++ t) (idxZ 0 fs ++ endL fs.length (idxZ 0 fs).length (outZ fs).length) he hf
    (by rw [← List.append_assoc]; exact h) (arc_tail es t) (by have := arc_tail fs []; rwa [List.append_nil] at this)
  have hl := congrArg List.length h
  rw [List.length_append, arcZ_len, arcZ_len, outZ_len_map, outZ_len_map, idxZ_len_map, idxZ_len_map, hm] at hl
  exact List.length_eq_zero_iff.1 (by omega)
theorem arc_head (es : List EntZ) : ∃ t, arcZ es = 80 :: t := by
  cases es with
  | nil => exact ⟨_, rfl⟩
  | cons x r =>
    unfold arcZ
    rw [outZ_cons]
    exact ⟨_, rfl⟩
theorem mem_out {x : EntZ} : ∀ es : List EntZ, x ∈ es → x.packed.size ≤ (outZ es).length
  | [], h => by simp at h
  | y :: r, h => by
    rw [outZ_cons, List.length_append, locZ_len]
    rcases List.mem_cons.1 h with rfl | h
    · omega
    · have := mem_out r h; omega
/-- An archive that is right says its lengths. -/
theorem okZ_of {es : List EntZ} (h0 : zchk (es.map filZ) = 0) (hl : (arcZ es).length < 4294967296) : OkZ es := fun x hx => by
  have h1 := mem_out es hx
  have h2 := (zchk_ok h0).2.2 (filZ x) (List.mem_map_of_mem hx)
  rw [arcZ_len] at hl
  unfold cleanB at h2
  simp only [Bool.and_eq_true, decide_eq_true_eq] at h2
  have h3 : (filZ x).path = x.path := rfl
  rw [h3] at h2
  exact ⟨by omega, by omega⟩
end Go.Proofs.YtlohadencnpdgaaDoor

/- Formulas of 1 Go functions of this seat (written by a program of the author's, vcgen.py), and that each is enough for the call. No condition. -/
set_option linter.unusedVariables false
namespace Go.Proofs.YtlohadencnpdgaaDoor
open Go Vc Go.Proofs
set_option maxRecDepth 100000
/-- cartularylaw01.Few -/
def vc_cartularylaw01_Few (x0 : ByteArray) (x1 : Int) (w : World) (R : Value → World → Prop) : Prop :=
  (((decide ((↑(ByteArray.size x0) : Int) > x1) = true →
     ((0 ≤ x1 ∧
       x1 ≤ (↑(ByteArray.size x0) : Int)) ∧
      R (Value.string (ByteArray.extract x0 0 (Int.toNat x1))) w))) ∧
   (decide ((↑(ByteArray.size x0) : Int) > x1) = false →
     R (Value.string x0) w))
theorem vc_cartularylaw01_Few_ok {x0 : ByteArray} {x1 : Int} {w : World} {R : Value → World → Prop} {R' : Ending → World → Prop} (h : vc_cartularylaw01_Few x0 x1 w R) (hR : ∀ v w', R v w' → R' (.returned v) w') :
    Calls Tryd.prog 5 #[.string x0, .int .i64 x1] w R' :=
  calls_of_body (vs := [(.string x0, false), (.int .i64 x1, false)]) (ty := ty) (ann := ⟨[], [], [], []⟩) (c := Tryd.f5.body.getD .skip) (by kernel_rfl) Tryd.func5 (by kernel_rfl) (by kernel_rfl) (Eq.mp (by kernel_rfl) h) hR
end Go.Proofs.YtlohadencnpdgaaDoor

/- The law's Few of a text. No condition. -/
set_option linter.unusedVariables false
namespace Go.Proofs.YtlohadencnpdgaaDoor
open Go Vc Go.Proofs

theorem fewS_spec (s : ByteArray) (n : Nat) (w : World) : Calls Tryd.prog F_cartularylaw01_Few #[.string s, .int .i64 n] w fun e w' => e = .returned (.string (if s.size > n then s.extract 0 n else s)) ∧ w' = w := by
  refine vc_cartularylaw01_Few_ok (R := fun v w' => v = .string (if s.size > n then s.extract 0 n else s) ∧ w' = w) ?_ (fun v w' h => ⟨by rw [h.1], h.2⟩)
  refine ⟨fun h => ?_, fun h => ?_⟩
  · have h := of_decide_eq_true h
    rw [if_pos (by omega)]
    exact ⟨⟨by omega, by omega⟩, by simp, rfl⟩
  · have h := of_decide_eq_false h
    rw [if_neg (by omega)]
    exact ⟨rfl, rfl⟩
theorem fewS_len (s : ByteArray) (n : Nat) : (if s.size > n then s.extract 0 n else s).size ≤ n := by
  split
  · simp; omega
  · omega
end Go.Proofs.YtlohadencnpdgaaDoor

/- A text's first bytes. No condition. -/
set_option linter.unusedVariables false
namespace Go.Proofs.YtlohadencnpdgaaDoor
open Go Vc Go.Proofs

def fewB (s : ByteArray) (n : Nat) : ByteArray := if s.size > n then s.extract 0 n else s
theorem fewB_size (s : ByteArray) (n : Nat) : (fewB s n).size ≤ n ∧ (fewB s n).size ≤ s.size := by
  unfold fewB
  split
  · rw [ByteArray.size_extract]; omega
  · omega
end Go.Proofs.YtlohadencnpdgaaDoor

/- Formulas of 2 Go functions of this seat (written by a program of the author's, vcgen.py), and that each is enough for the call. No condition. -/
set_option linter.unusedVariables false
namespace Go.Proofs.YtlohadencnpdgaaDoor
open Go Vc Go.Proofs
set_option maxRecDepth 100000
/-- cartularylaw07.Few -/
def vc_cartularylaw07_Few (x0a : Option Addr) (x0n : Nat) (x0c : Nat) (x1 : Int) (w : World) (R : Value → World → Prop) : Prop :=
  (((decide ((↑x0n : Int) > x1) = true →
     ((0 ≤ x1 ∧
       x1 ≤ (↑x0c : Int)) ∧
      ∀ w1 : World,
      (w1 = World.alloc w (Obj.cells (Array.mk []) 32) →
        ∃ w2 : World, ∃ l3 : Sl, (Sem.run Tryd.prog (Builtin.append_ (Array.mk [22, 22]) 22 (Array.mk [Value.slice (some (Addr.mk (Array.size (World.heap w)) 0 none)) 0 0, Value.slice (subA x0a x0c 0 2) (Int.toNat x1) x0c])) w1 = Result.ok (Value.slice l3.1 l3.2 l3.3) w2 ∧
         R (Value.slice l3.1 l3.2 l3.3) w2))))) ∧
   (decide ((↑x0n : Int) > x1) = false →
     ∀ w4 : World,
     (w4 = World.alloc w (Obj.cells (Array.mk []) 32) →
       ∃ w5 : World, ∃ l6 : Sl, (Sem.run Tryd.prog (Builtin.append_ (Array.mk [22, 22]) 22 (Array.mk [Value.slice (some (Addr.mk (Array.size (World.heap w)) 0 none)) 0 0, Value.slice x0a x0n x0c])) w4 = Result.ok (Value.slice l6.1 l6.2 l6.3) w5 ∧
        R (Value.slice l6.1 l6.2 l6.3) w5))))
theorem vc_cartularylaw07_Few_ok {x0a : Option Addr} {x0n : Nat} {x0c : Nat} {x1 : Int} {w : World} {R : Value → World → Prop} {R' : Ending → World → Prop} (h : vc_cartularylaw07_Few x0a x0n x0c x1 w R) (hR : ∀ v w', R v w' → R' (.returned v) w') :
    Calls Tryd.prog 24 #[.slice x0a x0n x0c, .int .i64 x1] w R' :=
  calls_of_body (vs := [(.slice x0a x0n x0c, false), (.int .i64 x1, false)]) (ty := ty) (ann := ⟨[], [], [], []⟩) (c := Tryd.f24.body.getD .skip) (by kernel_rfl) Tryd.func24 (by kernel_rfl) (by kernel_rfl) (Eq.mp (by kernel_rfl) h) hR
/-- cartularylaw09.Short -/
def vc_cartularylaw09_Short (x0a : Option Addr) (x0n : Nat) (x0c : Nat) (x1 : Int) (w : World) (R : Value → World → Prop) : Prop :=
  Calls Tryd.prog (24 : Nat) (Array.mk [Value.slice x0a x0n x0c, Value.int IntKind.i64 x1]) (w) (fun e1 w2 =>
    ∃ l3 : Sl, (e1 = Ending.returned (Value.slice l3.1 l3.2 l3.3) ∧
     ∃ I4 : Int → World → Prop, ∃ I5 : Int → World → Nat, (I4 0 w2 ∧
      ∀ n6 : Int,
      ∀ w7 : World,
      (I4 n6 w7 →
        (((decide (n6 < (↑l3.2 : Int)) = true →
           ((0 ≤ n6 ∧
             n6 < (↑l3.2 : Int)) ∧
            ∃ a8 : Addr, (l3.1 = some a8 ∧
             ∃ s9 : ByteArray, (World.cell? w7 (Addr.add (Addr.add a8 (Int.toNat n6 * 2)) 1) = some (Value.string s9) ∧
              Calls Tryd.prog (5 : Nat) (Array.mk [Value.string s9, Value.int IntKind.i64 400]) (w7) (fun e10 w11 =>
                ∃ s12 : ByteArray, (e10 = Ending.returned (Value.string s12) ∧
                 ((0 ≤ n6 ∧
                   n6 < (↑l3.2 : Int)) ∧
                  ∃ a13 : Addr, (l3.1 = some a13 ∧
                   (Wr w11 (Addr.add (Addr.add a13 (Int.toNat n6 * 2)) 1) ∧
                    ∀ w14 : World,
                    (w14 = World.setCell w11 (Addr.add (Addr.add a13 (Int.toNat n6 * 2)) 1) (Value.string s12) →
                      (I4 (IntKind.wrap IntKind.i64 (n6 + 1)) w14 ∧
                       I5 (IntKind.wrap IntKind.i64 (n6 + 1)) w14 < I5 n6 w7)))))))))))) ∧
         (decide (n6 < (↑l3.2 : Int)) = false →
           R (Value.slice l3.1 l3.2 l3.3) w7))))))
theorem vc_cartularylaw09_Short_ok {x0a : Option Addr} {x0n : Nat} {x0c : Nat} {x1 : Int} {w : World} {R : Value → World → Prop} {R' : Ending → World → Prop} (h : vc_cartularylaw09_Short x0a x0n x0c x1 w R) (hR : ∀ v w', R v w' → R' (.returned v) w') :
    Calls Tryd.prog 9 #[.slice x0a x0n x0c, .int .i64 x1] w R' :=
  calls_of_body (vs := [(.slice x0a x0n x0c, false), (.int .i64 x1, false)]) (ty := ty) (ann := ⟨[], [(3, [(12, .int .i64)])], [], []⟩) (c := Tryd.f9.body.getD .skip) (by kernel_rfl) Tryd.func9 (by kernel_rfl) (by kernel_rfl) (Eq.mp (by kernel_rfl) h) hR
end Go.Proofs.YtlohadencnpdgaaDoor

/- The laws' Few (of chapter 7) and Short (of chapter 9) of files. Conditions: texts are no longer than memory. -/
set_option linter.unusedVariables false
namespace Go.Proofs.YtlohadencnpdgaaDoor
open Go Vc Go.Proofs

theorem few07_spec {w : World} {a : Option Addr} {n c : Nat} {xs : List FileE} (hr : ReadsK encF 2 w a xs) (hn : xs.length = n) (hc : n ≤ c) (m : Nat) (hm : m ≤ 1000000) : Calls Tryd.prog F_cartularylaw07_Few #[.slice a n c, .int .i64 m] w fun e w' =>
    ∃ l, e = .returned (.slice l.a l.len l.cap) ∧ OwnK encF 2 w' w.heap.size T_api_File l (xs.take m) ∧ Fr (fun _ => False) w w' := by
  refine vc_cartularylaw07_Few_ok (R := fun v w' => ∃ l : Sl, v = .slice l.a l.len l.cap ∧ OwnK encF 2 w' w.heap.size T_api_File l (xs.take m) ∧ Fr (fun _ => False) w w') ?_ (fun v w' ⟨l, h⟩ => ⟨l, by rw [h.1], h.2⟩)
  have key : ∀ (src : Option Addr) (k c' : Nat), ReadsK encF 2 w src (xs.take m) → (xs.take m).length = k → ∀ w1, w1 = w.alloc (.cells #[] T_api_File) →
      ∃ (w2 : World) (l3 : Sl), (Builtin.append_ #[T_S_api_File, T_S_api_File] T_S_api_File #[.slice (some ⟨w.heap.size, 0, none⟩) 0 0, .slice src k c']).run Tryd.prog w1 = .ok (.slice l3.a l3.len l3.cap) w2 ∧ ∃ l : Sl, Value.slice l3.a l3.len l3.cap = .slice l.a l.len l.cap ∧ OwnK encF 2 w2 w.heap.size T_api_File l (xs.take m) ∧ Fr (fun _ => False) w w2 := fun src k c' hr hk w1 h1 => by
    have hml : (xs.take m).length ≤ 1000000 := by rw [List.length_take]; omega
    have hf1 : Fr (fun _ => False) w w1 := by rw [h1]; exact .alloc _ _ _
    have ho1 : OwnK encF 2 w1 w.heap.size T_api_File ⟨some ⟨w.heap.size, 0, none⟩, 0, 0⟩ [] := by rw [h1]; exact .empty w T_api_File
    obtain ⟨w2, l3, hr2, ho2, hf2⟩ := append_allK elF ho1 c' (hr.keep hf1 (by simp)) (by simp only [List.length_nil, maxLen]; omega) (by simp only [List.length_nil]; omega) hf1.size hk
    exact ⟨w2, l3, hr2, l3, rfl, ho2, hf1.trans hf2 fun q hq ⟨y, hy, e⟩ => by cases hy; simp only at e; omega⟩
  refine ⟨fun h => ⟨⟨by omega, by have := of_decide_eq_true h; omega⟩, fun w1 h1 => ?_⟩, fun h w4 h4 => ?_⟩
  · have h := of_decide_eq_true h
    rw [Int.toNat_natCast]
    have hs := hr.sub (cap := c) (by omega) 0
    rw [List.drop_zero] at hs
    exact key _ _ _ (hs.take m) (by rw [List.length_take]; omega) w1 h1
  · have h := of_decide_eq_false h
    rw [List.take_of_length_le (by omega)] at key ⊢
    exact key _ _ _ hr hn w4 h4
def cutF (n : Nat) (x : FileE) : FileE := ⟨x.path, fewB x.data n⟩
def shortF (xs : List FileE) (m : Nat) : List FileE := (xs.take m).map (cutF 400)
theorem short09_spec {w : World} {a : Option Addr} {n c : Nat} {xs : List FileE} (hr : ReadsK encF 2 w a xs) (hn : xs.length = n) (hc : n ≤ c) (m : Nat) (hm : m ≤ 1000000) : Calls Tryd.prog F_cartularylaw09_Short #[.slice a n c, .int .i64 m] w fun e w' =>
    ∃ l, e = .returned (.slice l.a l.len l.cap) ∧ OwnK encF 2 w' w.heap.size T_api_File l (shortF xs m) ∧ Fr (fun _ => False) w w' := by
  refine vc_cartularylaw09_Short_ok (R := fun v w' => ∃ l : Sl, v = .slice l.a l.len l.cap ∧ OwnK encF 2 w' w.heap.size T_api_File l (shortF xs m) ∧ Fr (fun _ => False) w w') ?_ (fun v w' ⟨l, h⟩ => ⟨l, by rw [h.1], h.2⟩)
  refine (few07_spec hr hn hc m hm).mono ?_
  rintro e w2 ⟨l, rfl, ho, hf2⟩
  have hl := ho.len
  have hml : (xs.take m).length ≤ 1000000 := by rw [List.length_take]; omega
  unfold shortF
  generalize xs.take m = ys at ho hl hml
  refine ⟨l, rfl, fun i w' => ∃ k : Nat, i = k ∧ k ≤ ys.length ∧ OwnK encF 2 w' w.heap.size T_api_File l ((ys.take k).map (cutF 400) ++ ys.drop k) ∧ Fr (fun _ => False) w w', fun i _ => ys.length - i.toNat, ⟨0, rfl, Nat.zero_le _, by simpa using ho, hf2⟩, ?_⟩
  clear ho
  rintro i w7 ⟨k, rfl, hk, ho, hf⟩
  have e1 : IntKind.i64.wrap ((k : Int) + 1) = ((k + 1 : Nat) : Int) := by rw [wrap_i64 (by omega) (by omega)]; omega
  rw [e1]
  refine ⟨fun hlt => ?_, fun hge => ?_⟩
  · have hlt := of_decide_eq_true hlt
    have hkl : k < ys.length := by omega
    have hx : ys[k]? = some ys[k] := List.getElem?_eq_getElem hkl
    have hdr : ys.drop k = ys[k] :: ys.drop (k + 1) := List.drop_eq_getElem_cons hkl
    generalize ys[k] = x at hx hdr
    have htl : ((ys.take k).map (cutF 400)).length = k := by rw [List.length_map, List.length_take]; omega
    have hxk : ((ys.take k).map (cutF 400) ++ ys.drop k)[k]? = some x := by rw [List.getElem?_append_right (by omega), htl, Nat.sub_self, hdr]; rfl
    obtain ⟨ad, had, hrd⟩ := (ho.reads fun _ => rfl) k x hxk
    have hrd1 := hrd 1 (.string x.data) rfl
    refine ⟨⟨by omega, by omega⟩, ad, had, x.data, by rw [Int.toNat_natCast]; exact hrd1, (fewS_spec x.data 400 w7).mono ?_⟩
    rintro e w11 ⟨rfl, hw⟩
    replace hw := hw.symm
    subst hw
    obtain ⟨ad', had', hwr, ho', hf'⟩ := OwnK.setField (enc := encF) (k := 2) (fun _ => rfl) ho (i := k) (j := 1) (x := x) (y := cutF 400 x) (v := .string (fewB x.data 400)) hxk (show 1 < 2 by decide) rfl
    rw [had] at had'; cases had'
    refine ⟨_, rfl, ⟨by omega, by omega⟩, ad, had, by rw [Int.toNat_natCast]; exact hwr, fun w14 h14 => ?_⟩
    rw [Int.toNat_natCast] at h14
    change w14 = w7.setCell _ (.string (fewB x.data 400)) at h14
    subst h14
    refine ⟨⟨k + 1, rfl, by omega, ?_, hf.trans hf' fun q hq ⟨y, hy, e⟩ => by have := (ho.blk hy).1; omega⟩, by dsimp only; omega⟩
    have hset : ((ys.take k).map (cutF 400) ++ ys.drop k).set k (cutF 400 x) = (ys.take (k + 1)).map (cutF 400) ++ ys.drop (k + 1) := by
      rw [List.set_append_right _ _ (by omega), htl, Nat.sub_self, hdr, List.set_cons_zero, List.take_add_one, hx, List.map_append, List.append_assoc]
      rfl
    rw [← hset]; exact ho'
  · have hge := of_decide_eq_false hge
    have hk' : k = ys.length := by omega
    rw [hk', List.take_length, List.drop_length, List.append_nil] at ho
    exact ⟨l, rfl, ho, hf⟩
end Go.Proofs.YtlohadencnpdgaaDoor

/- A list of files cut short: how many bytes. No program in sight. -/
set_option linter.unusedVariables false
namespace Go.Proofs.YtlohadencnpdgaaDoor
open Go Vc Go.Proofs

theorem shortF_szZ {xs : List FileE} {m N : Nat} (hb : ∀ x ∈ xs, x.path.size ≤ N ∧ x.data.size ≤ N) : (shortF xs m).length ≤ m ∧ ∀ x ∈ shortF xs m, x.path.size ≤ N ∧ x.data.size ≤ 400 := by
  refine ⟨by unfold shortF; rw [List.length_map, List.length_take]; omega, fun x hx => ?_⟩
  obtain ⟨y, hy, rfl⟩ := List.mem_map.1 hx
  exact ⟨(hb y (List.mem_of_mem_take hy)).1, (fewB_size _ _).1⟩
theorem totalF_small {B : Nat} : ∀ ys : List FileE, (∀ y ∈ ys, y.data.size ≤ B) → totalF ys ≤ ys.length * B
  | [], _ => Nat.zero_le _
  | y :: r, h => by
    have ih := totalF_small r fun z hz => h z (List.mem_cons_of_mem _ hz)
    have h1 := h y List.mem_cons_self
    unfold totalF at *
    rw [List.map_cons, List.sum_cons, List.length_cons, Nat.succ_mul]; omega
end Go.Proofs.YtlohadencnpdgaaDoor

/- Formulas of 1 Go functions of this seat (written by a program of the author's, vcgen.py), and that each is enough for the call. No condition. -/
set_option linter.unusedVariables false
namespace Go.Proofs.YtlohadencnpdgaaDoor
open Go Vc Go.Proofs
set_option maxRecDepth 100000
/-- cartularyref23.Same -/
def vc_cartularyref23_Same (x0a : Option Addr) (x0n : Nat) (x0c : Nat) (x1a : Option Addr) (x1n : Nat) (x1c : Nat) (w : World) (R : Value → World → Prop) : Prop :=
  (((((↑x0n : Int) != (↑x1n : Int)) = true →
     R (Value.bool false) w)) ∧
   (((↑x0n : Int) != (↑x1n : Int)) = false →
     ∃ I1 : Int → World → Prop, ∃ I2 : Int → World → Nat, (I1 0 w ∧
      ∀ n3 : Int,
      ∀ w4 : World,
      (I1 n3 w4 →
        (((decide (n3 < (↑x0n : Int)) = true →
           ∀ w5 : World,
           (Drew w4 w5 →
             ∃ I6 : World → Prop, (I6 w5 ∧
              ((0 ≤ n3 ∧
                n3 < (↑x0n : Int)) ∧
               ∃ a7 : Addr, (x0a = some a7 ∧
                ((0 ≤ n3 ∧
                  n3 < (↑x1n : Int)) ∧
                 ∃ a8 : Addr, (x1a = some a8 ∧
                  ∃ s9 : ByteArray, ∃ s10 : ByteArray, ((∀ w11 : World,
                   (I6 w11 →
                     Sem.run Tryd.prog (loadVar 32 (Addr.add a7 (Int.toNat n3 * 2))) w11 = Result.ok (Value.agg (Array.mk [Value.string s9, Value.string s10])) w11)) ∧
                   ∃ s12 : ByteArray, ∃ s13 : ByteArray, ((∀ w14 : World,
                    (I6 w14 →
                      Sem.run Tryd.prog (loadVar 32 (Addr.add a8 (Int.toNat n3 * 2))) w14 = Result.ok (Value.agg (Array.mk [Value.string s12, Value.string s13])) w14)) ∧
                    ((((!(ByteArray.toList s9 == ByteArray.toList s12 && ByteArray.toList s10 == ByteArray.toList s13)) = true →
                       R (Value.bool false) w5)) ∧
                     ((!(ByteArray.toList s9 == ByteArray.toList s12 && ByteArray.toList s10 == ByteArray.toList s13)) = false →
                       (I1 (IntKind.wrap IntKind.i64 (n3 + 1)) w5 ∧
                        I2 (IntKind.wrap IntKind.i64 (n3 + 1)) w5 < I2 n3 w4))))))))))))) ∧
         (decide (n3 < (↑x0n : Int)) = false →
           R (Value.bool true) w4))))))
theorem vc_cartularyref23_Same_ok {x0a : Option Addr} {x0n : Nat} {x0c : Nat} {x1a : Option Addr} {x1n : Nat} {x1c : Nat} {w : World} {R : Value → World → Prop} {R' : Ending → World → Prop} (h : vc_cartularyref23_Same x0a x0n x0c x1a x1n x1c w R) (hR : ∀ v w', R v w' → R' (.returned v) w') :
    Calls Tryd.prog 11 #[.slice x0a x0n x0c, .slice x1a x1n x1c] w R' :=
  calls_of_body (vs := [(.slice x0a x0n x0c, false), (.slice x1a x1n x1c, false)]) (ty := ty) (ann := ⟨[], [(4, [(13, .int .i64)])], [(6, .held [(0, true), (1, true), (2, true), (4, true), (5, true), (6, true), (3, true), (7, true), (8, true)])], []⟩) (c := Tryd.f11.body.getD .skip) (by kernel_rfl) Tryd.func11 (by kernel_rfl) (by kernel_rfl) (Eq.mp (by kernel_rfl) h) hR
end Go.Proofs.YtlohadencnpdgaaDoor

/- The reference's Same of two lists of files. Condition: at most a million. -/
set_option linter.unusedVariables false
namespace Go.Proofs.YtlohadencnpdgaaDoor
open Go Vc Go.Proofs

theorem rsame_spec {w : World} {a b : Option Addr} {n m c d : Nat} {xs ys : List FileE} (hx : ReadsK encF 2 w a xs) (hy : ReadsK encF 2 w b ys) (hn : xs.length = n) (hm : ys.length = m) (hl : n ≤ 1000000) : Calls Tryd.prog F_cartularyref23_Same #[.slice a n c, .slice b m d] w fun e w' => (∃ r : Bool, e = .returned (.bool r) ∧ (r = true ↔ xs = ys)) ∧ Drew w w' := by
  refine vc_cartularyref23_Same_ok (R := fun v w' => (∃ r : Bool, v = .bool r ∧ (r = true ↔ xs = ys)) ∧ Drew w w') ?_ (fun v w' ⟨⟨r, h1, h2⟩, h3⟩ => ⟨⟨r, by rw [h1], h2⟩, h3⟩)
  refine ⟨fun h => ⟨⟨false, rfl, fun h => (by cases h), fun e => ?_⟩, .refl _⟩, fun h => ?_⟩
  · rw [← hn, ← hm, e] at h; simp at h
  have hnm : n = m := by
    have : (n : Int) = m := by simpa using h
    omega
  refine ⟨fun i w' => ∃ k : Nat, i = k ∧ k ≤ n ∧ xs.take k = ys.take k ∧ Drew w w', fun i _ => n - i.toNat, ⟨0, rfl, Nat.zero_le _, rfl, .refl _⟩, ?_⟩
  rintro i w4 ⟨k, rfl, hk, heq, d4⟩
  have e1 : IntKind.i64.wrap ((k : Int) + 1) = ((k + 1 : Nat) : Int) := by rw [wrap_i64 (by omega) (by omega)]; omega
  rw [e1]
  refine ⟨fun hlt w5 d5 => ?_, fun hge => ⟨⟨true, rfl, fun _ => ?_, fun _ => rfl⟩, d4⟩⟩
  · have hlt := of_decide_eq_true hlt
    have h1 : xs[k]? = some xs[k] := List.getElem?_eq_getElem (by omega)
    have h2 : ys[k]? = some ys[k] := List.getElem?_eq_getElem (by omega)
    generalize xs[k] = x at h1
    generalize ys[k] = y at h2
    have fd : Fr (fun _ => False) w w5 := .drew _ (d4.trans d5)
    obtain ⟨ad, had, hld⟩ := (hx.keep fd (by simp)).load elF h1
    obtain ⟨bd, hbd, hld'⟩ := (hy.keep fd (by simp)).load elF h2
    refine ⟨fun w' => w' = w5, rfl, ⟨by omega, by omega⟩, ad, had, ⟨by omega, by omega⟩, bd, hbd, x.path, x.data, fun w' e => by rw [e, Int.toNat_natCast]; exact hld, y.path, y.data, fun w' e => by rw [e, Int.toNat_natCast]; exact hld', fun h => ⟨⟨false, rfl, fun h => (by cases h), fun e => ?_⟩, d4.trans d5⟩, fun h => ⟨⟨k + 1, rfl, by omega, ?_, d4.trans d5⟩, by dsimp only; omega⟩⟩
    · rw [e, h2] at h1
      cases h1
      rw [bs_eq, bs_eq] at h; simp at h
    · rw [bs_eq, bs_eq] at h
      have h : x.path = y.path ∧ x.data = y.data := by simpa using h
      have hxy : x = y := by cases x; cases y; simp only at h; rw [h.1, h.2]
      rw [List.take_add_one, List.take_add_one, heq, h1, h2, hxy]
  · have hge := of_decide_eq_false hge
    have hk' : k = n := by omega
    rw [hk', List.take_of_length_le (by omega), List.take_of_length_le (by omega)] at heq
    exact heq
end Go.Proofs.YtlohadencnpdgaaDoor

/- Archives of stored files are right. No condition. -/
set_option linter.unusedVariables false
namespace Go.Proofs.YtlohadencnpdgaaDoor
open Go Vc SumM Go.Proofs

theorem zipL_len (ys : List FileE) : (zipL ys).length = (outL ys).length + ((idxL 0 ys).length + 22) := by
  unfold zipL
  rw [List.length_append, List.length_append, endL_len]
theorem good_sto {ys : List FileE} (h0 : zchk ys = 0) (hs : (zipL ys).length ≤ 2097152) : GoodZ (ys.map stoZ) ⟨(zipL ys).toArray⟩ := by
  obtain ⟨h1, h2, h3⟩ := zchk_ok h0
  refine ⟨by rw [bs_mk, arcZ_sto], by rw [bs_mksize]; exact hs, by rw [fil_sto]; exact h0, fun x hx => ?_⟩
  obtain ⟨y, hy, rfl⟩ := List.mem_map.1 hx
  refine sto_unp ?_
  have : ∀ zs : List FileE, y ∈ zs → y.data.size ≤ totalF zs := fun zs => by
    induction zs with
    | nil => intro h; simp at h
    | cons z r ih =>
      intro h
      unfold totalF at *
      rw [List.map_cons, List.sum_cons]
      rcases List.mem_cons.1 h with rfl | h
      · omega
      · have := ih h; omega
  have := this ys hy
  omega
theorem zipL_le {ys : List FileE} (h0 : zchk ys = 0) : (zipL ys).length ≤ 1500000 := by
  obtain ⟨h1, h2, h3⟩ := zchk_ok h0
  have hp : ∀ y ∈ ys, y.path.size ≤ 200 := fun y hy => by
    have := h3 y hy
    unfold cleanB at this
    simp only [Bool.and_eq_true, decide_eq_true_eq] at this
    omega
  have a1 := outL_len (B := 200) ys hp
  have a2 := idxL_len (B := 200) 0 ys hp
  have a3 : ys.length * (30 + 200) ≤ 600 * 230 := Nat.mul_le_mul h1 (by omega)
  have a4 : ys.length * (46 + 200) ≤ 600 * 246 := Nat.mul_le_mul h1 (by omega)
  rw [zipL_len]; omega
end Go.Proofs.YtlohadencnpdgaaDoor

/- Formulas of 1 Go functions of this seat (written by a program of the author's, vcgen.py), and that each is enough for the call. No condition. -/
set_option linter.unusedVariables false
namespace Go.Proofs.YtlohadencnpdgaaDoor
open Go Vc Go.Proofs
set_option maxRecDepth 100000
/-- cartularylaw23.awake -/
def vc_cartularylaw23_awake (w : World) (R : Value → World → Prop) : Prop :=
  ∀ w1 : World,
  (w1 = World.alloc w (Obj.cells (Array.mk [Value.string (ByteArray.mk (Array.mk [97])), Value.string (ByteArray.mk (Array.mk [104, 105]))]) 32) →
    Calls Tryd.prog (7 : Nat) (Array.mk [Value.slice (some (Addr.mk (Array.size (World.heap w)) 0 none)) 1 1]) (w1) (fun e2 w3 =>
      ∃ s4 : ByteArray, ∃ n5 : Int, (e2 = Ending.returned (Value.tuple (Array.mk [Value.string s4, Value.int IntKind.i64 n5])) ∧
       Calls Tryd.prog (6 : Nat) (Array.mk [Value.string s4]) (w3) (fun e6 w7 =>
         ∃ l8 : Sl, ∃ n9 : Int, (e6 = Ending.returned (Value.tuple (Array.mk [Value.slice l8.1 l8.2 l8.3, Value.int IntKind.i64 n9])) ∧
          Calls Tryd.prog (6 : Nat) (Array.mk [Value.string (ByteArray.mk (Array.mk []))]) (w7) (fun e10 w11 =>
            ∃ l12 : Sl, ∃ n13 : Int, (e10 = Ending.returned (Value.tuple (Array.mk [Value.slice l12.1 l12.2 l12.3, Value.int IntKind.i64 n13])) ∧
             ((((n5 == 0) = true →
                ((((n9 == 0) = true →
                   ((((n13 == 6) = true →
                      (((((↑(ByteArray.size s4) : Int) == 102) = true →
                         ∀ w14 : World,
                         (w14 = World.alloc w11 (Obj.cells (Array.mk [Value.string (ByteArray.mk (Array.mk [97])), Value.string (ByteArray.mk (Array.mk [104, 105]))]) 32) →
                           Calls Tryd.prog (11 : Nat) (Array.mk [Value.slice l8.1 l8.2 l8.3, Value.slice (some (Addr.mk (Array.size (World.heap w11)) 0 none)) 1 1]) (w14) (fun e15 w16 =>
                             ∃ b17 : Bool, (e15 = Ending.returned (Value.bool b17) ∧
                              R (Value.bool b17) w16))))) ∧
                       (((↑(ByteArray.size s4) : Int) == 102) = false →
                         R (Value.bool false) w11)))) ∧
                    ((n13 == 6) = false →
                      R (Value.bool false) w11)))) ∧
                 ((n9 == 0) = false →
                   R (Value.bool false) w11)))) ∧
              ((n5 == 0) = false →
                R (Value.bool false) w11)))))))))
theorem vc_cartularylaw23_awake_ok {w : World} {R : Value → World → Prop} {R' : Ending → World → Prop} (h : vc_cartularylaw23_awake w R) (hR : ∀ v w', R v w' → R' (.returned v) w') :
    Calls Tryd.prog 10 #[] w R' :=
  calls_of_body (vs := []) (ty := ty) (ann := ⟨[], [], [], []⟩) (c := Tryd.f10.body.getD .skip) (by kernel_rfl) Tryd.func10 (by kernel_rfl) (by kernel_rfl) (Eq.mp (by kernel_rfl) h) hR
end Go.Proofs.YtlohadencnpdgaaDoor

/- The reference's Text; chapter 23's awake; zip.Read of no bytes. Conditions: as named. -/
set_option linter.unusedVariables false
namespace Go.Proofs.YtlohadencnpdgaaDoor
open Go Vc SumM Go.Proofs

theorem zread_short {s : ByteArray} (hs : s.size < 22) (w : World) :
    Calls Tryd.prog F_zip_Read #[.string s] w fun e w' => e = .returned (.tuple #[.slice none 0 0, .int .i64 6]) ∧ Fr (fun _ => False) w w' := by
  refine vc_zip_Read_ok (R := fun v w' => v = .tuple #[.slice none 0 0, .int .i64 6] ∧ Fr (fun _ => False) w w') ?_ (fun v w' h => ⟨by rw [h.1], h.2⟩)
  intro w1 h1 w2 h2
  have f1 : Fr (fun _ => False) w w1 := by rw [h1]; exact .alloc _ _ _
  have f2 : Fr (fun _ => False) w1 w2 := by rw [h2]; exact .alloc _ _ _
  have hA : w2.heap[w.heap.size]? = some (.cells #[.slice none 0 0] T_S_api_File (0, 0)) := f2.keep (by rw [h1]; exact alloc_new w _) (by simp)
  have s1 : w1.heap.size = w.heap.size + 1 := by rw [h1]; simp
  have hE : w2.heap[w1.heap.size]? = some (.cells #[.int .i64 0] T_api_Errno (0, 0)) := by rw [h2]; exact alloc_new w1 _
  refine ⟨fun h => absurd (of_decide_eq_true h) (by omega), fun _ => ⟨fun _ => ⟨wr_blk hA (Nat.lt_succ_self 0), fun w7 h7 => ?_⟩, fun h => absurd (of_decide_eq_false h) (by omega)⟩⟩
  have hA7 : w7.heap[w.heap.size]? = some (.cells #[.slice none 0 0] T_S_api_File (0, 0)) := by rw [h7, set_blk hA]; rfl
  have f7 : Fr (· = w.heap.size) w2 w7 := by rw [h7]; exact Fr.set (· = w.heap.size) w2 (a := ⟨w.heap.size, 0, none⟩) _ rfl
  have hE7 := f7.keep hE (by omega)
  refine ⟨wr_blk hE7 (Nat.lt_succ_self 0), fun w8 h8 => ?_⟩
  have hE8 : w8.heap[w1.heap.size]? = some (.cells #[.int .i64 6] T_api_Errno (0, 0)) := by rw [h8, set_blk hE7]; rfl
  have f8 : Fr (· = w1.heap.size) w7 w8 := by rw [h8]; exact Fr.set (· = w1.heap.size) w7 (a := ⟨w1.heap.size, 0, none⟩) _ rfl
  refine ⟨⟨none, 0, 0⟩, load_one (by kernel_rfl) (by rw [cell_blk (f8.keep hA7 (by omega))]; rfl), 6, load_one (by kernel_rfl) (by rw [cell_blk hE8]; rfl), rfl, ?_⟩
  exact ((f1.trans' f2).trans f7 fun q hq e => by omega).trans f8 fun q hq e => by omega
def aw23 : List FileE := [⟨⟨#[97]⟩, ⟨#[104, 105]⟩⟩]
theorem aw23_chk : zchk aw23 = 0 := by kernel_rfl
theorem awake23_spec (w : World) : Calls Tryd.prog F_cartularylaw23_awake #[] w fun e w' => e = .returned (.bool true) ∧ Fr (fun _ => False) w w' := by
  refine vc_cartularylaw23_awake_ok (R := fun v w' => v = .bool true ∧ Fr (fun _ => False) w w') ?_ (fun v w' h => ⟨by rw [h.1], h.2⟩)
  intro w1 h1
  have key : ∀ (v v' : World), v' = v.alloc (.cells (encF ⟨⟨#[97]⟩, ⟨#[104, 105]⟩⟩).toArray T_api_File) → ReadsK encF 2 v' (some ⟨v.heap.size, 0, none⟩) aw23 := fun v v' h i y hi => by
    cases i with
    | zero =>
      simp only [aw23, List.getElem?_cons_zero, Option.some.injEq] at hi
      subst hi
      refine ⟨_, rfl, fun j u hv => ?_⟩
      rw [Nat.zero_mul, add_lit, add_lit, h, cell_blk (alloc_new v _), Nat.zero_add]; simpa using hv
    | succ i => simp [aw23] at hi
  have f1 : Fr (fun _ => False) w w1 := by rw [h1]; exact .alloc _ _ _
  refine (zwrite_spec (key w w1 h1) rfl (by decide) (by decide +kernel) (by decide +kernel)).mono ?_
  rintro e w3 ⟨rfl, f3⟩
  have hz : zipE aw23 = ⟨(zipL aw23).toArray⟩ := by unfold zipE; rw [if_pos aw23_chk]
  have hlen : (zipL aw23).length = 102 := by
    rw [zipL_len]
    simp only [aw23, outL, List.flatMap_cons, List.flatMap_nil, idxL, List.length_append, List.length_nil, locL_len, cenL_len]
    rfl
  rw [hz, aw23_chk]
  refine ⟨_, _, rfl, (zread_spec (good_sto aw23_chk (by omega)) w3).mono ?_⟩
  rintro e w7 ⟨l8, rfl, o7, f7⟩
  rw [fil_sto] at o7
  refine ⟨l8, 0, rfl, (zread_short (by decide) w7).mono ?_⟩
  rintro e w11 ⟨rfl, f11⟩
  refine ⟨⟨none, 0, 0⟩, 6, rfl, fun _ => ⟨fun _ => ⟨fun _ => ⟨fun _ w14 h14 => ?_, fun h => ?_⟩, fun h => absurd h (by decide)⟩, fun h => absurd h (by decide)⟩, fun h => absurd h (by decide)⟩
  · have f14 : Fr (fun _ => False) w11 w14 := by rw [h14]; exact .alloc _ _ _
    refine (rsame_spec (((o7.keep f11 (by simp)).keep f14 (by simp)).reads elF.len) (key w11 w14 h14) o7.1 rfl (by rw [← o7.1]; decide)).mono ?_
    rintro e w16 ⟨⟨r, rfl, hr⟩, d16⟩
    refine ⟨r, rfl, by rw [hr.2 rfl], (((((f1.trans' f3).trans' f7).trans' f11).trans' f14).trans' (.drew _ d16))⟩
  · rw [bs_mksize, hlen] at h; exact absurd h (by decide)
end Go.Proofs.YtlohadencnpdgaaDoor

/- Formulas of 3 Go functions of this seat (written by a program of the author's, vcgen.py), and that each is enough for the call. No condition. -/
set_option linter.unusedVariables false
namespace Go.Proofs.YtlohadencnpdgaaDoor
open Go Vc Go.Proofs
set_option maxRecDepth 100000
/-- cartularylaw23.ZipOne -/
def vc_cartularylaw23_ZipOne (x0 : ByteArray) (x1a : Option Addr) (x1n : Nat) (x1c : Nat) (w : World) (R : Value → World → Prop) : Prop :=
  Calls Tryd.prog (5 : Nat) (Array.mk [Value.string x0, Value.int IntKind.i64 2000]) (w) (fun e1 w2 =>
    ∃ s3 : ByteArray, (e1 = Ending.returned (Value.string s3) ∧
     Calls Tryd.prog (6 : Nat) (Array.mk [Value.string s3]) (w2) (fun e4 w5 =>
       ∃ l6 : Sl, ∃ n7 : Int, (e4 = Ending.returned (Value.tuple (Array.mk [Value.slice l6.1 l6.2 l6.3, Value.int IntKind.i64 n7])) ∧
        ∃ I8 : World → Prop, (((((n7 == 0) = true →
            Calls Tryd.prog (7 : Nat) (Array.mk [Value.slice l6.1 l6.2 l6.3]) (w5) (fun e9 w10 =>
              ∃ s11 : ByteArray, ∃ n12 : Int, (e9 = Ending.returned (Value.tuple (Array.mk [Value.string s11, Value.int IntKind.i64 n12])) ∧
               ((((n12 != 0) = true →
                  R (Value.bool false) w10)) ∧
                ((n12 != 0) = false →
                  (((((↑(ByteArray.size s11) : Int) == (↑(ByteArray.size s3) : Int)) = true →
                     ((((!ByteArray.toList s11 == ByteArray.toList s3) = true →
                        Calls Tryd.prog (8 : Nat) (Array.mk [Value.string s3, Value.slice l6.1 l6.2 l6.3]) (w10) (fun e13 w14 =>
                          ∃ b15 : Bool, (e13 = Ending.returned (Value.bool b15) ∧
                           (((b15 = true →
                              R (Value.bool false) w14)) ∧
                            (b15 = false →
                              I8 w14)))))) ∧
                      ((!ByteArray.toList s11 == ByteArray.toList s3) = false →
                        I8 w10)))) ∧
                   (((↑(ByteArray.size s11) : Int) == (↑(ByteArray.size s3) : Int)) = false →
                     I8 w10)))))))) ∧
          ((n7 == 0) = false →
            I8 w5)) ∧
         ∀ w16 : World,
         (I8 w16 →
           Calls Tryd.prog (9 : Nat) (Array.mk [Value.slice x1a x1n x1c, Value.int IntKind.i64 40]) (w16) (fun e17 w18 =>
             ∃ l19 : Sl, (e17 = Ending.returned (Value.slice l19.1 l19.2 l19.3) ∧
              Calls Tryd.prog (7 : Nat) (Array.mk [Value.slice l19.1 l19.2 l19.3]) (w18) (fun e20 w21 =>
                ∃ s22 : ByteArray, ∃ n23 : Int, (e20 = Ending.returned (Value.tuple (Array.mk [Value.string s22, Value.int IntKind.i64 n23])) ∧
                 ∃ I24 : Int → Int → World → Prop, ∃ I25 : Int → Int → World → Nat, (I24 22 0 w21 ∧
                  ∀ n26 : Int,
                  ∀ n27 : Int,
                  ∀ w28 : World,
                  (I24 n26 n27 w28 →
                    (((decide (n27 < (↑l19.2 : Int)) = true →
                       ((0 ≤ n27 ∧
                         n27 < (↑l19.2 : Int)) ∧
                        ∃ a29 : Addr, (l19.1 = some a29 ∧
                         ∃ s30 : ByteArray, ∃ s31 : ByteArray, (Sem.run Tryd.prog (loadVar 32 (Addr.add a29 (Int.toNat n27 * 2))) w28 = Result.ok (Value.agg (Array.mk [Value.string s30, Value.string s31])) w28 ∧
                          ∀ w32 : World,
                          (w32 = World.alloc w28 (Obj.cells (Array.mk [Value.string (ByteArray.mk (Array.mk [])), Value.string (ByteArray.mk (Array.mk []))]) 32) →
                            ∃ w33 : World, (Sem.run Tryd.prog (storeVar 32 (Addr.mk (Array.size (World.heap w28)) 0 none) (Value.agg (Array.mk [Value.string s30, Value.string s31]))) w32 = Result.ok PUnit.unit w33 ∧
                             ∃ s34 : ByteArray, (World.cell? w33 (Addr.mk (Array.size (World.heap w28)) 0 none) = some (Value.string s34) ∧
                              ∃ s35 : ByteArray, (World.cell? w33 (Addr.mk (Array.size (World.heap w28)) 1 none) = some (Value.string s35) ∧
                               (I24 (IntKind.wrap IntKind.i64 (n26 + IntKind.wrap IntKind.i64 (IntKind.wrap IntKind.i64 (76 + IntKind.wrap IntKind.i64 (2 * (↑(ByteArray.size s34) : Int))) + (↑(ByteArray.size s35) : Int)))) (IntKind.wrap IntKind.i64 (n27 + 1)) w33 ∧
                                I25 (IntKind.wrap IntKind.i64 (n26 + IntKind.wrap IntKind.i64 (IntKind.wrap IntKind.i64 (76 + IntKind.wrap IntKind.i64 (2 * (↑(ByteArray.size s34) : Int))) + (↑(ByteArray.size s35) : Int)))) (IntKind.wrap IntKind.i64 (n27 + 1)) w33 < I25 n26 n27 w28)))))))))) ∧
                     (decide (n27 < (↑l19.2 : Int)) = false →
                       Calls Tryd.prog (10 : Nat) (Array.mk []) (w28) (fun e36 w37 =>
                         ∃ b38 : Bool, (e36 = Ending.returned (Value.bool b38) ∧
                          (((b38 = true →
                             ((((n23 != 0) = true →
                                R (Value.bool true) w37)) ∧
                              ((n23 != 0) = false →
                                R (Value.bool ((↑(ByteArray.size s22) : Int) == n26)) w37)))) ∧
                           (b38 = false →
                             R (Value.bool false) w37))))))))))))))))))
theorem vc_cartularylaw23_ZipOne_ok {x0 : ByteArray} {x1a : Option Addr} {x1n : Nat} {x1c : Nat} {w : World} {R : Value → World → Prop} {R' : Ending → World → Prop} (h : vc_cartularylaw23_ZipOne x0 x1a x1n x1c w R) (hR : ∀ v w', R v w' → R' (.returned v) w') :
    Calls Tryd.prog 3 #[.string x0, .slice x1a x1n x1c] w R' :=
  calls_of_body (vs := [(.string x0, false), (.slice x1a x1n x1c, false)]) (ty := ty) (ann := ⟨[(7, [])], [(11, [(12, .int .i64), (57, .int .i64)])], [], []⟩) (c := Tryd.f3.body.getD .skip) (by kernel_rfl) Tryd.func3 (by kernel_rfl) (by kernel_rfl) (Eq.mp (by kernel_rfl) h) hR
/-- cartularylaw23.plain -/
def vc_cartularylaw23_plain (x0 : ByteArray) (x1a : Option Addr) (x1n : Nat) (x1c : Nat) (w : World) (R : Value → World → Prop) : Prop :=
  ∃ I1 : Int → Int → World → Prop, ∃ I2 : Int → Int → World → Nat, (I1 0 0 w ∧
   ∀ n3 : Int,
   ∀ n4 : Int,
   ∀ w5 : World,
   (I1 n3 n4 w5 →
     (((decide (n4 < (↑x1n : Int)) = true →
        ((0 ≤ n4 ∧
          n4 < (↑x1n : Int)) ∧
         ∃ a6 : Addr, (x1a = some a6 ∧
          ∃ s7 : ByteArray, ∃ s8 : ByteArray, (Sem.run Tryd.prog (loadVar 32 (Addr.add a6 (Int.toNat n4 * 2))) w5 = Result.ok (Value.agg (Array.mk [Value.string s7, Value.string s8])) w5 ∧
           ∀ w9 : World,
           (w9 = World.alloc w5 (Obj.cells (Array.mk [Value.string (ByteArray.mk (Array.mk [])), Value.string (ByteArray.mk (Array.mk []))]) 32) →
             ∃ w10 : World, (Sem.run Tryd.prog (storeVar 32 (Addr.mk (Array.size (World.heap w5)) 0 none) (Value.agg (Array.mk [Value.string s7, Value.string s8]))) w9 = Result.ok PUnit.unit w10 ∧
              (((decide (IntKind.wrap IntKind.i64 (n3 + 10) > (↑(ByteArray.size x0) : Int)) = true →
                 R (Value.bool false) w10)) ∧
               (decide (IntKind.wrap IntKind.i64 (n3 + 10) > (↑(ByteArray.size x0) : Int)) = false →
                 ((0 ≤ IntKind.wrap IntKind.i64 (n3 + 8) ∧
                   IntKind.wrap IntKind.i64 (n3 + 8) < (↑(ByteArray.size x0) : Int)) ∧
                  ((((byteAt x0 (IntKind.wrap IntKind.i64 (n3 + 8)) != 0) = true →
                     R (Value.bool false) w10)) ∧
                   ((byteAt x0 (IntKind.wrap IntKind.i64 (n3 + 8)) != 0) = false →
                     ∃ s11 : ByteArray, (World.cell? w10 (Addr.mk (Array.size (World.heap w5)) 0 none) = some (Value.string s11) ∧
                      ∃ s12 : ByteArray, (World.cell? w10 (Addr.mk (Array.size (World.heap w5)) 1 none) = some (Value.string s12) ∧
                       (I1 (IntKind.wrap IntKind.i64 (n3 + IntKind.wrap IntKind.i64 (IntKind.wrap IntKind.i64 (30 + (↑(ByteArray.size s11) : Int)) + (↑(ByteArray.size s12) : Int)))) (IntKind.wrap IntKind.i64 (n4 + 1)) w10 ∧
                        I2 (IntKind.wrap IntKind.i64 (n3 + IntKind.wrap IntKind.i64 (IntKind.wrap IntKind.i64 (30 + (↑(ByteArray.size s11) : Int)) + (↑(ByteArray.size s12) : Int)))) (IntKind.wrap IntKind.i64 (n4 + 1)) w10 < I2 n3 n4 w5))))))))))))))) ∧
      (decide (n4 < (↑x1n : Int)) = false →
        R (Value.bool true) w5))))
theorem vc_cartularylaw23_plain_ok {x0 : ByteArray} {x1a : Option Addr} {x1n : Nat} {x1c : Nat} {w : World} {R : Value → World → Prop} {R' : Ending → World → Prop} (h : vc_cartularylaw23_plain x0 x1a x1n x1c w R) (hR : ∀ v w', R v w' → R' (.returned v) w') :
    Calls Tryd.prog 8 #[.string x0, .slice x1a x1n x1c] w R' :=
  calls_of_body (vs := [(.string x0, false), (.slice x1a x1n x1c, false)]) (ty := ty) (ann := ⟨[], [(3, [(5, .int .i64), (10, .int .i64)])], [], []⟩) (c := Tryd.f8.body.getD .skip) (by kernel_rfl) Tryd.func8 (by kernel_rfl) (by kernel_rfl) (Eq.mp (by kernel_rfl) h) hR
/-- cartularylaw23.ZipSpoils -/
def vc_cartularylaw23_ZipSpoils (x0a : Option Addr) (x0n : Nat) (x0c : Nat) (x1 : Int) (w : World) (R : Value → World → Prop) : Prop :=
  Calls Tryd.prog (9 : Nat) (Array.mk [Value.slice x0a x0n x0c, Value.int IntKind.i64 10]) (w) (fun e1 w2 =>
    ∃ l3 : Sl, (e1 = Ending.returned (Value.slice l3.1 l3.2 l3.3) ∧
     Calls Tryd.prog (7 : Nat) (Array.mk [Value.slice l3.1 l3.2 l3.3]) (w2) (fun e4 w5 =>
       ∃ s6 : ByteArray, ∃ n7 : Int, (e4 = Ending.returned (Value.tuple (Array.mk [Value.string s6, Value.int IntKind.i64 n7])) ∧
        ((((n7 != 0) = true →
           Calls Tryd.prog (10 : Nat) (Array.mk []) (w5) (fun e8 w9 =>
             ∃ b10 : Bool, (e8 = Ending.returned (Value.bool b10) ∧
              R (Value.bool b10) w9)))) ∧
         ((n7 != 0) = false →
           (((decide (x1 < 0) = true →
              Calls Tryd.prog (10 : Nat) (Array.mk []) (w5) (fun e11 w12 =>
                ∃ b13 : Bool, (e11 = Ending.returned (Value.bool b13) ∧
                 R (Value.bool b13) w12)))) ∧
            (decide (x1 < 0) = false →
              (((decide (x1 ≥ (↑(ByteArray.size s6) : Int)) = true →
                 Calls Tryd.prog (10 : Nat) (Array.mk []) (w5) (fun e14 w15 =>
                   ∃ b16 : Bool, (e14 = Ending.returned (Value.bool b16) ∧
                    R (Value.bool b16) w15)))) ∧
               (decide (x1 ≥ (↑(ByteArray.size s6) : Int)) = false →
                 ((0 ≤ x1 ∧
                   x1 ≤ (↑(ByteArray.size s6) : Int)) ∧
                  Calls Tryd.prog (6 : Nat) (Array.mk [Value.string (ByteArray.extract s6 0 (Int.toNat x1))]) (w5) (fun e17 w18 =>
                    ∃ l19 : Sl, ∃ n20 : Int, (e17 = Ending.returned (Value.tuple (Array.mk [Value.slice l19.1 l19.2 l19.3, Value.int IntKind.i64 n20])) ∧
                     (ByteArray.size s6 + ByteArray.size (ByteArray.mk (Array.mk [0])) ≤ 9223372036854775807 ∧
                      Calls Tryd.prog (6 : Nat) (Array.mk [Value.string (s6 ++ ByteArray.mk (Array.mk [0]))]) (w18) (fun e21 w22 =>
                        ∃ l23 : Sl, ∃ n24 : Int, (e21 = Ending.returned (Value.tuple (Array.mk [Value.slice l23.1 l23.2 l23.3, Value.int IntKind.i64 n24])) ∧
                         (ByteArray.size (ByteArray.mk (Array.mk [0])) + ByteArray.size s6 ≤ 9223372036854775807 ∧
                          Calls Tryd.prog (6 : Nat) (Array.mk [Value.string (ByteArray.mk (Array.mk [0]) ++ s6)]) (w22) (fun e25 w26 =>
                            ∃ l27 : Sl, ∃ n28 : Int, (e25 = Ending.returned (Value.tuple (Array.mk [Value.slice l27.1 l27.2 l27.3, Value.int IntKind.i64 n28])) ∧
                             Calls Tryd.prog (10 : Nat) (Array.mk []) (w26) (fun e29 w30 =>
                               ∃ b31 : Bool, (e29 = Ending.returned (Value.bool b31) ∧
                                (((b31 = true →
                                   ((((n20 != 0) = true →
                                      ((((n24 != 0) = true →
                                         ((((n28 != 0) = true →
                                            (((((↑l19.2 : Int) == 0) = true →
                                               (((((↑l23.2 : Int) == 0) = true →
                                                  (((((↑l27.2 : Int) == 0) = true →
                                                     ∀ w32 : World,
                                                     (w32 = World.alloc w30 (Obj.cells (Array.mk [Value.string (ByteArray.mk (Array.mk [])), Value.string (ByteArray.mk (Array.mk []))]) 32) →
                                                       Calls Tryd.prog (11 : Nat) (Array.mk [Value.slice none 0 0, Value.slice (some (Addr.mk (Array.size (World.heap w30)) 0 none)) 1 1]) (w32) (fun e33 w34 =>
                                                         ∃ b35 : Bool, (e33 = Ending.returned (Value.bool b35) ∧
                                                          R (Value.bool !b35) w34))))) ∧
                                                   (((↑l27.2 : Int) == 0) = false →
                                                     R (Value.bool false) w30)))) ∧
                                                (((↑l23.2 : Int) == 0) = false →
                                                  R (Value.bool false) w30)))) ∧
                                             (((↑l19.2 : Int) == 0) = false →
                                               R (Value.bool false) w30)))) ∧
                                          ((n28 != 0) = false →
                                            R (Value.bool false) w30)))) ∧
                                       ((n24 != 0) = false →
                                         R (Value.bool false) w30)))) ∧
                                    ((n20 != 0) = false →
                                      R (Value.bool false) w30)))) ∧
                                 (b31 = false →
                                   R (Value.bool false) w30)))))))))))))))))))))))
theorem vc_cartularylaw23_ZipSpoils_ok {x0a : Option Addr} {x0n : Nat} {x0c : Nat} {x1 : Int} {w : World} {R : Value → World → Prop} {R' : Ending → World → Prop} (h : vc_cartularylaw23_ZipSpoils x0a x0n x0c x1 w R) (hR : ∀ v w', R v w' → R' (.returned v) w') :
    Calls Tryd.prog 4 #[.slice x0a x0n x0c, .int .i64 x1] w R' :=
  calls_of_body (vs := [(.slice x0a x0n x0c, false), (.int .i64 x1, false)]) (ty := ty) (ann := ⟨[], [], [], []⟩) (c := Tryd.f4.body.getD .skip) (by kernel_rfl) Tryd.func4 (by kernel_rfl) (by kernel_rfl) (Eq.mp (by kernel_rfl) h) hR
end Go.Proofs.YtlohadencnpdgaaDoor

/- ZipOne: there is one archive of given files, of the length that its parts have. Conditions: what comes in is within the reach. -/
set_option linter.unusedVariables false
namespace Go.Proofs.YtlohadencnpdgaaDoor
open Go Vc SumM Go.Proofs

def lenF (ys : List FileE) : Nat := (ys.map fun y => 76 + 2 * y.path.size + y.data.size).sum
theorem lenF_take {ys : List FileE} {k : Nat} {y : FileE} (h : ys[k]? = some y) : lenF (ys.take (k + 1)) = lenF (ys.take k) + (76 + 2 * y.path.size + y.data.size) := by
  unfold lenF
  rw [List.take_add_one, h, List.map_append, List.sum_append]; simp
theorem lenF_le {B : Nat} : ∀ ys : List FileE, (∀ y ∈ ys, y.path.size ≤ B ∧ y.data.size ≤ B) → lenF ys ≤ ys.length * (76 + 3 * B)
  | [], _ => Nat.zero_le _
  | y :: r, h => by
    have ih := lenF_le r fun z hz => h z (List.mem_cons_of_mem _ hz)
    have h1 := h y List.mem_cons_self
    unfold lenF at *
    rw [List.map_cons, List.sum_cons, List.length_cons, Nat.add_mul, Nat.one_mul]
    omega
theorem zipL_total (ys : List FileE) : (zipL ys).length = 22 + lenF ys := by
  have key : ∀ (zs : List FileE) (off : Nat), (outL zs).length + (idxL off zs).length = lenF zs := by
    intro zs
    induction zs with
    | nil => intro off; simp [outL, idxL, lenF]
    | cons z r ih =>
      intro off
      have := ih (off + (locL z).length)
      rw [locL_len] at this
      unfold outL lenF at *
      rw [List.flatMap_cons, idxL, List.length_append, List.length_append, locL_len, cenL_len, List.map_cons, List.sum_cons]
      omega
  rw [zipL_len]
  have := key ys 0
  omega
/-- Each file is stored. -/
theorem all_sto : ∀ es : List EntZ, (∀ x ∈ es, x.method = 0 ∧ x.packed = x.data) → es = (es.map filZ).map stoZ
  | [], _ => rfl
  | x :: r, h => by
    obtain ⟨h1, h2⟩ := h x List.mem_cons_self
    rw [List.map_cons, List.map_cons, ← all_sto r fun y hy => h y (List.mem_cons_of_mem _ hy)]
    congr 1
    cases x
    simp only at h1 h2
    subst h1 h2
    rfl
theorem plain_spec {w : World} {a : Option Addr} {n c : Nat} {es : List EntZ} {s : ByteArray} (hs : s.data.toList = arcZ es) (hss : s.size ≤ 1000000) (hk : ∀ x ∈ es, KeptZ x) (hr : ReadsK encF 2 w a (es.map filZ)) (hn : es.length = n) (hn6 : n ≤ 1000000) :
    Calls Tryd.prog F_cartularylaw23_plain #[.string s, .slice a n c] w fun e w' => (∃ b : Bool, e = .returned (.bool b) ∧ (b = true → ∀ x ∈ es, x.method = 0 ∧ x.packed = x.data)) ∧ Fr (fun _ => False) w w' := by
  refine vc_cartularylaw23_plain_ok (R := fun v w' => (∃ b : Bool, v = .bool b ∧ (b = true → ∀ x ∈ es, x.method = 0 ∧ x.packed = x.data)) ∧ Fr (fun _ => False) w w') ?_ (fun v w' ⟨⟨b, h1, h2⟩, h3⟩ => ⟨⟨b, by rw [h1], h2⟩, h3⟩)
  have hlen := congrArg List.length hs
  rw [bs_len, arcZ_len] at hlen
  refine ⟨fun z i w' => ∃ k : Nat, i = k ∧ k ≤ es.length ∧ z = ((outZ (es.take k)).length : Int) ∧ (∀ x ∈ es.take k, x.method = 0 ∧ x.packed = x.data) ∧ Fr (fun _ => False) w w', fun _ i _ => es.length - i.toNat, ⟨0, rfl, Nat.zero_le _, rfl, fun x hx => by simp at hx, .refl _ _⟩, ?_⟩
  rintro z i w5 ⟨k, rfl, hkl, rfl, hall, hf⟩
  refine ⟨fun hlt => ?_, fun hge => ⟨⟨true, rfl, fun _ => ?_⟩, hf⟩⟩
  · have hlt := of_decide_eq_true hlt
    have hkl : k < es.length := by omega
    have hxk : es[k]? = some es[k] := List.getElem?_eq_getElem hkl
    have htk : es.take (k + 1) = es.take k ++ [es[k]] := (List.take_append_getElem hkl).symm
    generalize es[k] = x at hxk htk
    have hyk : (es.map filZ)[k]? = some (filZ x) := by rw [List.getElem?_map, hxk]; rfl
    obtain ⟨ad, had, hld⟩ := (hr.keep hf (by simp)).load elF hyk
    have hsplit : arcZ es = outZ (es.take k) ++ (locZ x ++ (outZ (es.drop (k + 1)) ++ (idxZ 0 es ++ endL es.length (idxZ 0 es).length (outZ es).length))) := by
      have h1 := outZ_drop es k
      rw [outZ_at hxk] at h1
      conv => lhs; unfold arcZ
      rw [h1]
      simp only [List.append_assoc]
    have hloc := locZ_len x
    have hol := outZ_len_take hxk
    have hol2 := outZ_take_le es (k + 1)
    obtain ⟨off, hoff⟩ : ∃ o, (outZ (es.take k)).length = o := ⟨_, rfl⟩
    rw [hoff] at hol ⊢
    have e10 : IntKind.i64.wrap ((off : Int) + 10) = ((off + 10 : Nat) : Int) := by rw [wrap_i64 (by omega) (by omega)]; omega
    have e8 : IntKind.i64.wrap ((off : Int) + 8) = ((off + 8 : Nat) : Int) := by rw [wrap_i64 (by omega) (by omega)]; omega
    have hb8 : s.data.toList[off + 8]? = some (UInt8.ofNat x.method) := by
      rw [hs, hsplit, List.getElem?_append_right (by omega), hoff, show off + 8 - off = 8 by omega]
      have h8 : ∀ R : List UInt8, (locZ x ++ R)[8]? = some (UInt8.ofNat (x.method / 256 ^ 0)) := fun R => rfl
      rw [h8, Nat.pow_zero, Nat.div_one]
    have hbyt : byteAt s ((off + 8 : Nat) : Int) = ((UInt8.ofNat x.method).toNat : Int) := by
      rw [byteAt_nat]
      unfold byt
      rw [hb8]; rfl
    rw [Int.toNat_natCast, e10, e8, hbyt]
    refine ⟨⟨by omega, by omega⟩, ad, had, x.path, x.data, hld, fun w9 h9 => ?_⟩
    subst h9
    obtain ⟨w10, hw10⟩ : ∃ w10, w5.alloc (.cells (encF (filZ x)).toArray T_api_File) = w10 := ⟨_, rfl⟩
    have hfb : Fr (fun _ => False) w5 w10 := by rw [← hw10]; exact .alloc _ _ _
    refine ⟨w10, by rw [← hw10]; exact boxF_run w5 (filZ x), fun h => absurd (of_decide_eq_true h) (by omega), fun _ => ⟨⟨by omega, by omega⟩, fun hne => ⟨⟨false, rfl, fun h => by cases h⟩, hf.trans' hfb⟩, fun heq => ?_⟩⟩
    have hm : x.method = 0 ∧ x.packed = x.data := by
      rcases hk x (List.mem_of_getElem? hxk) with h | h
      · exact h
      · rw [h] at heq; exact absurd heq (by decide)
    have hxp : (filZ x).data.size = x.packed.size := by rw [hm.2]; rfl
    have e1 : IntKind.i64.wrap ((k : Int) + 1) = ((k + 1 : Nat) : Int) := by rw [wrap_i64 (by omega) (by omega)]; omega
    refine ⟨x.path, by rw [← hw10]; exact boxF_cell w5 (filZ x) (.refl (fun _ => False) _) (by simp) (j := 0) rfl, (filZ x).data, by rw [← hw10]; exact boxF_cell w5 (filZ x) (.refl (fun _ => False) _) (by simp) (j := 1) rfl, ?_⟩
    have a1 : IntKind.i64.wrap (30 + (x.path.size : Int)) = ((30 + x.path.size : Nat) : Int) := by rw [wrap_i64 (by omega) (by omega)]; omega
    have a2 : IntKind.i64.wrap (((30 + x.path.size : Nat) : Int) + ((filZ x).data.size : Int)) = ((30 + x.path.size + x.packed.size : Nat) : Int) := by rw [hxp, wrap_i64 (by omega) (by omega)]; omega
    have a3 : IntKind.i64.wrap ((off : Int) + ((30 + x.path.size + x.packed.size : Nat) : Int)) = ((outZ (es.take (k + 1))).length : Int) := by rw [wrap_i64 (by omega) (by omega)]; omega
    rw [a1, a2, a3, e1]
    refine ⟨⟨k + 1, rfl, by omega, rfl, fun y hy => ?_, hf.trans' hfb⟩, by dsimp only; omega⟩
    rw [htk] at hy
    rcases List.mem_append.1 hy with hy | hy
    · exact hall y hy
    · rw [List.mem_singleton] at hy; subst hy; exact hm
  · have hge := of_decide_eq_false hge
    have hk' : k = es.length := by omega
    rw [hk', List.take_length] at hall
    exact hall
set_option maxHeartbeats 1600000 in
theorem zipOne_walk (x0 : ByteArray) {a : Option Addr} {n c : Nat} {W : World} {xs : List FileE} (hr : ReadsK encF 2 W a xs) (hn : xs.length = n) (hc : n ≤ c) (hb : ∀ x ∈ xs, x.path.size ≤ reachBytes ∧ x.data.size ≤ reachBytes) :
    Calls Tryd.prog F_cartularylaw23_ZipOne #[.string x0, .slice a n c] W fun e w' => e = .returned (.bool true) ∧ RowKit.Below W.heap.size W w' := by
  refine vc_cartularylaw23_ZipOne_ok (R := fun u w' => u = .bool true ∧ Fr (fun _ => False) W w') ?_ (fun u w' h => ⟨by rw [h.1], (h.2.mono fun _ _ h => h.elim : Fr (fun k => W.heap.size ≤ k) W w').below (Nat.le_refl _)⟩)
  have hrb : reachBytes ≤ 140737488355328 := by decide
  refine (fewS_spec x0 2000 W).mono ?_
  rintro e w2 ⟨rfl, hw⟩
  replace hw := hw.symm
  subst hw
  have hs2 := fewS_len x0 2000
  refine ⟨_, rfl, ?_⟩
  generalize (if x0.size > 2000 then x0.extract 0 2000 else x0) = s at hs2 ⊢
  refine (read_x s (by omega) W).mono ?_
  rintro e w5 ⟨v, rfl, f5, hR⟩
  have hI : ∃ (l6 : Sl) (n7 : Int), v = .tuple #[.slice l6.a l6.len l6.cap, .int .i64 n7] ∧ (n7 = 0 → ∃ es : List EntZ, s.data.toList = arcZ es ∧ zchk (es.map filZ) = 0 ∧ (∀ x ∈ es, KeptZ x) ∧ OwnK encF 2 w5 W.heap.size T_api_File l6 (es.map filZ)) := by
    rcases hR with ⟨es, l, h1, h2, h3, h4, h5⟩ | ⟨k, hk, h4⟩
    · exact ⟨l, 0, h4, fun _ => ⟨es, h1, h2, h3, h5⟩⟩
    · exact ⟨⟨none, 0, 0⟩, k, h4, fun h => absurd h hk⟩
  obtain ⟨l6, n7, rfl, hI⟩ := hI
  refine ⟨l6, n7, rfl, fun w' => Fr (fun _ => False) W w', ⟨fun h => ?_, fun _ => f5⟩, ?_⟩
  · have h7 : n7 = 0 := by simpa using h
    obtain ⟨es, h1, h2, h3, h5⟩ := hI h7
    obtain ⟨hn600, htot, hcl⟩ := zchk_ok h2
    rw [List.length_map] at hn600
    have hp2 : ∀ y ∈ es.map filZ, y.path.size ≤ 200 := fun y hy => by
      have := hcl y hy
      unfold cleanB at this
      simp only [Bool.and_eq_true, decide_eq_true_eq] at this
      omega
    have hl5 := h5.1
    rw [List.length_map] at hl5
    refine (zwrite_spec (h5.reads elF.len) h5.1 (by omega) (fun y hy => Nat.le_trans (hp2 y hy) (by decide)) (by omega)).mono ?_
    rintro e w10 ⟨rfl, f10⟩
    have g10 := f5.trans' f10
    refine ⟨_, _, rfl, fun h => absurd (by simpa using h) (by rw [h2]; simp), fun _ => ⟨fun hlen => ⟨fun hne => ?_, fun _ => g10⟩, fun _ => g10⟩⟩
    refine (plain_spec (c := l6.cap) h1 (by omega) h3 ((h5.keep f10 (by simp)).reads elF.len) hl5 (by omega)).mono ?_
    rintro e w14 ⟨⟨b, rfl, hb15⟩, f14⟩
    refine ⟨b, rfl, fun hbt => ?_, fun _ => g10.trans' f14⟩
    exfalso
    have hst := all_sto es (hb15 hbt)
    have hz : zipE (es.map filZ) = s := by
      unfold zipE
      rw [if_pos h2]
      refine bs_ext ?_
      rw [bs_mk, h1, ← arcZ_sto, ← hst]
    rw [hz, bs_eq, decide_eq_true rfl] at hne
    cases hne
  rintro w16 f16
  obtain ⟨hl40, hsz⟩ := shortF_szZ (m := 40) hb
  refine (short09_spec (hr.keep f16 (by simp)) hn hc 40 (by decide)).mono ?_
  rintro e w18 ⟨l19, rfl, o18, f18⟩
  generalize shortF xs 40 = zs at *
  have hzn := o18.1
  have htot : totalF zs ≤ 16000 := Nat.le_trans (totalF_small (B := 400) zs fun y hy => (hsz y hy).2) (by omega)
  have hp : ∀ y ∈ zs, y.path.size ≤ 140737488355328 := fun y hy => Nat.le_trans (hsz y hy).1 hrb
  have hrd : ∀ {w' : World}, Fr (fun _ => False) w18 w' → ReadsK encF 2 w' l19.a zs := fun h => (o18.keep h (by simp)).reads elF.len
  refine ⟨l19, rfl, (zwrite_spec (hrd (.refl _ _)) hzn (by omega) hp (by omega)).mono ?_⟩
  rintro e w21 ⟨rfl, f21⟩
  have hlk : ∀ k, lenF (zs.take k) ≤ 40 * (76 + 3 * 140737488355328) := fun k => by
    have h1 := lenF_le (B := 140737488355328) (zs.take k) fun y hy => by
      have := hsz y (List.mem_of_mem_take hy)
      exact ⟨by omega, by omega⟩
    have h2 : (zs.take k).length ≤ 40 := by rw [List.length_take]; omega
    exact Nat.le_trans h1 (Nat.mul_le_mul_right _ h2)
  refine ⟨_, _, rfl, fun z i w' => ∃ k : Nat, i = k ∧ k ≤ zs.length ∧ z = ((22 + lenF (zs.take k) : Nat) : Int) ∧ Fr (fun _ => False) w21 w', fun _ i _ => zs.length - i.toNat, ⟨0, rfl, Nat.zero_le _, rfl, .refl _ _⟩, ?_⟩
  rintro z i w28 ⟨k, rfl, hk, rfl, f28⟩
  have hlk0 := hlk k
  refine ⟨fun hlt => ?_, fun hge => ?_⟩
  · have hlt := of_decide_eq_true hlt
    have hkl : k < zs.length := by omega
    have hyk : zs[k]? = some zs[k] := List.getElem?_eq_getElem hkl
    generalize zs[k] = y at hyk
    have hym := List.mem_of_getElem? hyk
    have hy1 := hp y hym
    have hy2 := (hsz y hym).2
    have hlt1 := lenF_take hyk
    have hlk1 := hlk (k + 1)
    obtain ⟨ad, had, hld⟩ := (hrd (f21.trans' f28)).load elF hyk
    rw [Int.toNat_natCast]
    refine ⟨⟨by omega, by omega⟩, ad, had, y.path, y.data, hld, fun w32 h32 => ?_⟩
    subst h32
    obtain ⟨w33, hw33⟩ : ∃ w33, w28.alloc (.cells (encF y).toArray T_api_File) = w33 := ⟨_, rfl⟩
    have hfb : Fr (fun _ => False) w28 w33 := by rw [← hw33]; exact .alloc _ _ _
    refine ⟨w33, by rw [← hw33]; exact boxF_run w28 y, y.path, by rw [← hw33]; exact boxF_cell w28 y (.refl (fun _ => False) _) (by simp) (j := 0) rfl, y.data, by rw [← hw33]; exact boxF_cell w28 y (.refl (fun _ => False) _) (by simp) (j := 1) rfl, ?_⟩
    have e1 : IntKind.i64.wrap ((k : Int) + 1) = ((k + 1 : Nat) : Int) := by rw [wrap_i64 (by omega) (by omega)]; omega
    have a1 : IntKind.i64.wrap (2 * (y.path.size : Int)) = ((2 * y.path.size : Nat) : Int) := by rw [wrap_i64 (by omega) (by omega)]; omega
    have a2 : IntKind.i64.wrap (76 + ((2 * y.path.size : Nat) : Int)) = ((76 + 2 * y.path.size : Nat) : Int) := by rw [wrap_i64 (by omega) (by omega)]; omega
    have a3 : IntKind.i64.wrap (((76 + 2 * y.path.size : Nat) : Int) + (y.data.size : Int)) = ((76 + 2 * y.path.size + y.data.size : Nat) : Int) := by rw [wrap_i64 (by omega) (by omega)]; omega
    have a4 : IntKind.i64.wrap (((22 + lenF (zs.take k) : Nat) : Int) + ((76 + 2 * y.path.size + y.data.size : Nat) : Int)) = ((22 + lenF (zs.take (k + 1)) : Nat) : Int) := by rw [wrap_i64 (by omega) (by omega)]; omega
    rw [a1, a2, a3, a4, e1]
    exact ⟨⟨k + 1, rfl, by omega, rfl, f28.trans' hfb⟩, by dsimp only; omega⟩
  · have hge := of_decide_eq_false hge
    have hk' : k = zs.length := by omega
    refine (awake23_spec w28).mono ?_
    rintro e w37 ⟨rfl, f37⟩
    have gend : Fr (fun _ => False) W w37 := (((f16.trans' f18).trans' f21).trans' f28).trans' f37
    refine ⟨true, rfl, fun _ => ⟨fun _ => ⟨rfl, gend⟩, fun h => ?_⟩, fun h => (by cases h)⟩
    have h0 : zchk zs = 0 := by simpa using h
    refine ⟨?_, gend⟩
    have hz : (zipE zs).size = 22 + lenF zs := by
      unfold zipE
      rw [if_pos h0, bs_mksize, zipL_total]
    rw [hk', List.take_length, hz, beq_self_eq_true]
end Go.Proofs.YtlohadencnpdgaaDoor

/- Slices of structs that came in, opened to cells. No condition: for all programs. -/
set_option linter.unusedVariables false
namespace Vc
open Go Go.ChangeShapes Go.WideShapes Go.Deep
section
variable {H : Type} {enc : TypeId × Value → H} {P : Program} {w : World} {base : Nat} {spare : Nat → Bool} {held : Bool}
/-- What the fields of an element say, its cells say. -/
def FieldsSay (enc : TypeId × Value → H) (P : Program) (w : World) (base : Nat) (spare : Nat → Bool) (held : Bool) (fs : Array Field) (Q : List Value → Prop) : Prop :=
  ∀ n (cs : List Value), cs.length = fs.size → (∀ (j : Nat) (f : Field) (v : Value), fs[j]? = some f → cs[j]? = some v → ∃ y, DataW.trod enc P w base spare held n f.type [v] = some y) → Q cs
theorem open_rows {t e : TypeId} {fs : Array Field} {fuel : Nat} {a : Option Addr} {len cap : Nat} {x : DataW H × List MemPlace} {Q : List Value → Prop} (ht : P.underlying t = some (.slice e)) (he : P.underlying e = some (.struct fs))
    (hone : oneCellFields P fs = true) (hC : P.cellsOf e = fs.size) (hQ : FieldsSay enc P w base spare held fs Q) (h : DataW.trod enc P w base spare held fuel t [.slice a len cap] = some x) : IsRows fs.size Q w a len := by
  intro i hi
  rcases open_slice ht h with ⟨h0, _⟩ | ⟨b, l, c, m, n, D, Pl, hcs, hb, hl, hm, hmm, hx, hi'⟩
  · simp only [List.cons.injEq, Value.slice.injEq] at h0; omega
  · simp only [List.cons.injEq, Value.slice.injEq, and_true] at hcs
    obtain ⟨rfl, rfl, rfl⟩ := hcs
    obtain ⟨cs, hc, htr⟩ := hi' i (by rw [hmm]; split <;> omega)
    obtain ⟨ys, n', _, _, hlen, hyl, hf⟩ := DataW.trod_struct he htr
    obtain ⟨_, hcl, hat⟩ := World.cells?_some hc
    rw [hC] at hcl hat
    refine ⟨b, cs, rfl, hcl, hQ n' cs hcl ?_, ?_⟩
    · intro j f v hj hv
      obtain ⟨ho, hk⟩ := hone_of hone j f hj
      have hjl : j < fs.size := (Array.getElem?_eq_some_iff.1 hj).1
      have h1 := hf j f hj
      have h2 : (cs.drop j).take 1 = [v] := by
        obtain ⟨hjl', hv'⟩ := List.getElem?_eq_some_iff.1 hv
        rw [List.drop_eq_getElem_cons hjl', hv']; rfl
      rw [ho, hk, h2, List.getElem?_eq_getElem (show j < ys.length by omega)] at h1
      exact ⟨_, h1⟩
    · intro j v hv
      have hjl := (List.getElem?_eq_some_iff.1 hv).1
      rw [← hv, ← hat j (by omega), add_add]
/-- As above, and what was read takes no more bytes than memory has. -/
def FieldsSayW (enc : TypeId × Value → H) (P : Program) (w : World) (base : Nat) (spare : Nat → Bool) (held : Bool) (fs : Array Field) (Q : List Value → Prop) : Prop :=
  ∀ n (cs : List Value), cs.length = fs.size → (∀ (j : Nat) (f : Field) (v : Value), fs[j]? = some f → cs[j]? = some v → ∃ y, DataW.trod enc P w base spare held n f.type [v] = some y ∧ (y.1.weights P f.type).all (· ≤ reachBytes) = true) → Q cs
theorem weightsAll_mem {e : TypeId} : ∀ {ds : List (DataW H)} {d : DataW H}, d ∈ ds → ∀ n ∈ d.weights P e, n ∈ DataW.weightsAll P e ds
  | d0 :: ds, d, h, n, hn => by
    simp only [DataW.weightsAll, List.mem_append]
    rcases List.mem_cons.1 h with rfl | h
    · exact .inl hn
    · exact .inr (weightsAll_mem h n hn)
theorem open_rowsW {t e : TypeId} {fs : Array Field} {fuel : Nat} {a : Option Addr} {len cap : Nat} {x : DataW H × List MemPlace} {Q : List Value → Prop} (ht : P.underlying t = some (.slice e)) (he : P.underlying e = some (.struct fs))
    (hone : oneCellFields P fs = true) (hC : P.cellsOf e = fs.size) (hsz : (x.1.weights P t).all (· ≤ reachBytes) = true) (hQ : FieldsSayW enc P w base spare held fs Q) (h : DataW.trod enc P w base spare held fuel t [.slice a len cap] = some x) : IsRows fs.size Q w a len ∧ len ≤ cap := by
  rcases open_slice ht h with ⟨h0, _⟩ | ⟨b, l, c, m, n, D, Pl, hcs, hb, hl, hm, hmm, hx, hi'⟩
  · simp only [List.cons.injEq, Value.slice.injEq, and_true] at h0
    exact ⟨fun i hi => by omega, by omega⟩
  · simp only [List.cons.injEq, Value.slice.injEq, and_true] at hcs
    obtain ⟨rfl, rfl, rfl⟩ := hcs
    refine ⟨fun i hi => ?_, hl⟩
    obtain ⟨cs, hc, htr⟩ := hi' i (by rw [hmm]; split <;> omega)
    have hwD : ((D i).weights P e).all (· ≤ reachBytes) = true := by
      rw [List.all_eq_true] at hsz ⊢
      intro q hq
      refine hsz q ?_
      rw [hx]
      simp only [DataW.weights, ht, List.mem_cons, List.mem_append]
      exact .inr (.inl (weightsAll_mem (List.mem_map.2 ⟨i, List.mem_range.2 hi, rfl⟩) q hq))
    obtain ⟨ys, n', _, hxe, hlen, hyl, hf⟩ := DataW.trod_struct he htr
    obtain ⟨_, hcl, hat⟩ := World.cells?_some hc
    rw [hC] at hcl hat
    refine ⟨b, cs, rfl, hcl, hQ n' cs hcl ?_, ?_⟩
    · intro j f v hj hv
      obtain ⟨ho, hk⟩ := hone_of hone j f hj
      have hjl : j < fs.size := (Array.getElem?_eq_some_iff.1 hj).1
      have h1 := hf j f hj
      have h2 : (cs.drop j).take 1 = [v] := by
        obtain ⟨hjl', hv'⟩ := List.getElem?_eq_some_iff.1 hv
        rw [List.drop_eq_getElem_cons hjl', hv']; rfl
      rw [ho, hk, h2, List.getElem?_eq_getElem (show j < ys.length by omega)] at h1
      refine ⟨_, h1, ?_⟩
      have hDe : D i = .agg (ys.map (·.1)) := by
        have := congrArg Prod.fst hxe
        simpa using this
      rw [hDe] at hwD
      simp only [DataW.weights, he] at hwD
      rw [List.all_eq_true] at hwD ⊢
      intro q hq
      refine hwD q (DataW.weights_mem_each (j := j) (t := f.type) (d := (ys[j]'(by omega)).1) ?_ ?_ q hq)
      · rw [List.getElem?_map, Array.getElem?_toList, hj]; rfl
      · rw [List.getElem?_map, List.getElem?_eq_getElem (show j < ys.length by omega)]; rfl
    · intro j v hv
      have hjl := (List.getElem?_eq_some_iff.1 hv).1
      rw [← hv, ← hat j (by omega), add_add]
/-- A slice of one-celled elements: what an element says, its cell says. -/
theorem open_cells {t e : TypeId} {fuel : Nat} {a : Option Addr} {len cap : Nat} {x : DataW H × List MemPlace} {Q : List Value → Prop} (ht : P.underlying t = some (.slice e)) (hC : P.cellsOf e = 1)
    (hQ : ∀ n v y, DataW.trod enc P w base spare held n e [v] = some y → Q [v]) (h : DataW.trod enc P w base spare held fuel t [.slice a len cap] = some x) : IsRows 1 Q w a len := by
  intro i hi
  rcases open_slice ht h with ⟨h0, _⟩ | ⟨b, l, c, m, n, D, Pl, hcs, hb, hl, hm, hmm, hx, hi'⟩
  · simp only [List.cons.injEq, Value.slice.injEq] at h0; omega
  · simp only [List.cons.injEq, Value.slice.injEq, and_true] at hcs
    obtain ⟨rfl, rfl, rfl⟩ := hcs
    obtain ⟨cs, hc, htr⟩ := hi' i (by rw [hmm]; split <;> omega)
    obtain ⟨_, hcl, hat⟩ := World.cells?_some hc
    rw [hC] at hcl hat
    obtain ⟨v, rfl⟩ : ∃ v, cs = [v] := List.length_eq_one_iff.1 hcl
    refine ⟨b, [v], rfl, rfl, hQ _ v _ htr, ?_⟩
    intro j u hu
    have hjl := (List.getElem?_eq_some_iff.1 hu).1
    rw [← hu, ← hat j hjl, add_add]
end
end Vc

/- The files that came in, as a list. No condition. -/
set_option linter.unusedVariables false
namespace Go.Proofs.YtlohadencnpdgaaDoor
open Go Vc Go.Proofs Go.RowKit

theorem files_of {W : World} {a : Option Addr} : ∀ (n : Nat), IsRows 2 (fun vs => ∃ x0 x1, vs = [.string x0, .string x1] ∧ x0.size ≤ reachBytes ∧ x1.size ≤ reachBytes) W a n → ∃ xs : List FileE, xs.length = n ∧ ReadsK encF 2 W a xs ∧ (∀ x ∈ xs, x.path.size ≤ reachBytes ∧ x.data.size ≤ reachBytes)
  | 0, _ => ⟨[], rfl, .nil _ _, fun x hx => by simp at hx⟩
  | n + 1, h => by
    obtain ⟨xs, hE, hR, hB⟩ := files_of n fun i hi => h i (by omega)
    obtain ⟨ad, vs, had, hl, ⟨x0, x1, rfl, h1, h2⟩, hc⟩ := h n (by omega)
    refine ⟨xs ++ [⟨x0, x1⟩], by rw [List.length_append, hE]; rfl, fun i x hx => ?_, fun x hx => ?_⟩
    · by_cases hi : i < xs.length
      · rw [List.getElem?_append_left hi] at hx
        exact hR i x hx
      · rw [List.getElem?_append_right (by omega)] at hx
        have hi0 : i - xs.length = 0 := by
          by_cases h : i - xs.length = 0
          · exact h
          · rw [List.getElem?_eq_none (by simp; omega)] at hx; cases hx
        rw [hi0] at hx
        simp only [List.getElem?_cons_zero, Option.some.injEq] at hx
        subst hx
        refine ⟨ad, had, fun j v hv => ?_⟩
        have := hc j v hv
        rw [add_add, show i = n by omega]
        exact this
    · rcases List.mem_append.1 hx with hx | hx
      · exact hB x hx
      · simp only [List.mem_cons, List.mem_nil_iff, or_false] at hx
        subst hx; exact ⟨h1, h2⟩
end Go.Proofs.YtlohadencnpdgaaDoor
