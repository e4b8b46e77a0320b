/- What table256 and block256 of the package sha do. Conditions: the words are eight, in a slice of the call's own; the text has 64 bytes. -/
import Derived.Test.YtcboiljbkkleiaaShaB
import Derived.Test.YtcboiljbkkleiaaShaC
import Derived.Laws.CopyRow
set_option linter.unusedVariables false
namespace Go.Proofs.Ytcboiljbkkleiaa
open Go Vc BitsM ShaM Go.Proofs

theorem one_uv (l : List W) : ∀ u ∈ uv l, u.oneCell' = true := fun u h => by
  obtain ⟨b, _, rfl⟩ := List.mem_map.1 h; rfl
theorem setRow_fr (X : Nat → Prop) (w : World) (g : Nat) (cs : Array Value) (h : X g) : Fr X w (w.setRow g cs) :=
  ⟨rfl, rfl, rfl, by simp [World.setRow], fun k _ hx => by
    simp only [World.setRow, Array.getElem?_modify]
    rw [if_neg (fun e => hx (by rw [← e]; exact h))]⟩
/-- A whole array stored. -/
theorem store_arr {P : Program} {w : World} {base g n : Nat} {e t : TypeId} {xs ys : List W} (h : Own w base e ⟨some ⟨g, 0, none⟩, n, n⟩ (uv xs)) (hy : ys.length = n) (hi : (P.info? t).map (·.size) = some n) :
    ∃ w', (storeVar t ⟨g, 0, none⟩ (.agg (uv ys).toArray)).run P w = .ok () w' ∧ Own w' base e ⟨some ⟨g, 0, none⟩, n, n⟩ (uv ys) ∧ Fr (· = g) w w' := by
  have hn := h.1
  rcases h.2 with ⟨ha, _⟩ | ⟨g', cur, ha, hb, hg, hl, hm, hs, ht⟩
  · cases ha
  · cases ha
    have hr := run_storeVar_row (P := P) w g e t cur (uv ys).toArray hg (by rw [hi, List.size_toArray, uv_len, hy]) (by simp [hy]; exact hs)
      (by rw [Array.all_eq_true_iff_forall_mem]; intro v hv; exact one_uv ys v (by simpa using hv))
    refine ⟨_, hr, ⟨by rw [uv_len, hy], .inr ⟨g, _, rfl, hb, setRow_heap w g cur _ e (0, 0) hg, hl, hm, by rw [List.size_toArray, uv_len, hy], ?_⟩⟩, setRow_fr _ w g _ rfl⟩
    exact List.take_of_length_le (by simp [hy])
set_option maxRecDepth 100000 in
theorem K256_len : K256.length = 64 := by decide +kernel
/-- 'table256'. -/
theorem table256_spec (w : World) : Calls Try.prog F_sha_table256 #[] w fun e w' => e = .returned (.agg (uv K256).toArray) ∧ Fr (fun _ => False) w w' := by
  refine vc_sha_table256_ok (R := fun v w' => v = .agg (uv K256).toArray ∧ Fr (fun _ => False) w w') ?_ (fun v w' h => ⟨by rw [h.1], h.2⟩)
  intro w1 hw1
  have o1 : Own w1 w.heap.size T_64_uint32 ⟨some ⟨w.heap.size, 0, none⟩, 64, 64⟩ (uv (List.replicate 64 0)) :=
    ⟨rfl, .inr ⟨w.heap.size, _, rfl, Nat.le_refl _, by rw [hw1]; exact alloc_new _ _, Nat.le_refl _, by simp [maxLen], rfl, rfl⟩⟩
  have f1 : Fr (fun _ => False) w w1 := hw1 ▸ Fr.alloc _ _ _
  obtain ⟨w2, hr, o2, f2⟩ := store_arr (P := Try.prog) (t := T_64_uint32) o1 K256_len (by kernel_rfl)
  refine ⟨w2, Eq.mp (by kernel_rfl) hr, ?_⟩
  have hload := load_agg (P := Try.prog) (t := T_64_uint32) (w := w2) (a := ⟨w.heap.size, 0, none⟩) (vs := uv K256) (agg_of (by kernel_rfl)) (by rw [uv_len, K256_len]; kernel_rfl) (fun j v hv => by
    obtain ⟨y, hy, hc⟩ := o2.reads j v hv
    cases hy; exact hc)
  exact ⟨_, hload, rfl, f1.trans f2 (fun q hq h => by omega)⟩

theorem adds_zip : ∀ (h v : List W), adds h v = List.zipWith (· + ·) h v
  | [], _ => by simp [adds]
  | a :: h, [] => by simp [adds]
  | a :: h, b :: v => by simp [adds, adds_zip h v]
/-- The words while they are added. -/
def mix (h v : List W) (i : Nat) : List W := (adds h v).take i ++ h.drop i
theorem mix_next {h v : List W} {i : Nat} (hl : h.length = v.length) (hi : i < h.length) : (mix h v i).set i (h.getD i 0 + v.getD i 0) = mix h v (i + 1) ∧ (mix h v i).getD i 0 = h.getD i 0 ∧ (mix h v i).length = h.length := by
  have hal : (adds h v).length = h.length := by rw [adds_zip, List.length_zipWith]; omega
  have htl : ((adds h v).take i).length = i := by rw [List.length_take]; omega
  have hx : (adds h v)[i]'(by omega) = h.getD i 0 + v.getD i 0 := by
    simp only [adds_zip, List.getElem_zipWith, List.getD_eq_getElem?_getD, List.getElem?_eq_getElem hi, List.getElem?_eq_getElem (show i < v.length by omega), Option.getD_some]
  refine ⟨?_, ?_, ?_⟩
  · unfold mix
    rw [List.set_append_right _ _ (by omega), htl, Nat.sub_self, List.take_succ_eq_append_getElem (by omega), hx, List.append_assoc, List.drop_eq_getElem_cons hi]
    rfl
  · unfold mix
    rw [List.getD_eq_getElem?_getD, List.getElem?_append_right (by omega), htl, Nat.sub_self, List.getElem?_drop]
    rw [List.getD_eq_getElem?_getD]; rfl
  · unfold mix
    rw [List.length_append, List.length_drop, htl]; omega
theorem shr3 (x : W) : Int.fdiv (x.toNat : Int) (2 ^ min (Int.toNat 3) 32) = ((x >>> 3).toNat : Int) := u_shr x 3 (by decide)
theorem shr10 (x : W) : Int.fdiv (x.toNat : Int) (2 ^ min (Int.toNat 10) 32) = ((x >>> 10).toNat : Int) := u_shr x 10 (by decide)

theorem block256_spec {w : World} {base : Nat} {l : Sl} {h : List W} (ho : Own w base T_uint32 l (uv h)) (hl : h.length = 8) (p : ByteArray) (hp : p.size = 64) :
    Calls Try.prog F_sha_block256 #[.slice l.a l.len l.cap, .string p] w fun e w' => e = .returned (.tuple #[]) ∧ Own w' base T_uint32 l (uv (block2 K256 h p.data.toList)) ∧ Fr (Vc.At l) w w' := by
  refine vc_sha_block256_ok (R := fun v w' => v = .tuple #[] ∧ Own w' base T_uint32 l (uv (block2 K256 h p.data.toList)) ∧ Fr (Vc.At l) w w') ?_ (fun v w' h => ⟨by rw [h.1], h.2⟩)
  intro w1 hw1
  have f1' : Fr (fun _ => False) w w1 := hw1 ▸ Fr.alloc _ _ _
  generalize hB : w.heap.size = wb at hw1
  obtain ⟨P, hPd⟩ : ∃ P, p.data.toList = P := ⟨_, rfl⟩
  rw [hPd]
  have hE : ∀ k, (E2 P k).length = k := E2_length P
  have hK := K256_len
  have o1 : Own w1 wb T_64_uint32 ⟨some ⟨wb, 0, none⟩, 64, 64⟩ (uv (arr (E2 P) 64 0)) :=
    ⟨rfl, .inr ⟨wb, _, rfl, Nat.le_refl _, by rw [hw1, ← hB]; exact alloc_new _ _, Nat.le_refl _, by simp [maxLen], rfl, rfl⟩⟩
  have hlen : l.len = 8 := by rw [ho.len, uv_len, hl]
  have hlb : ∀ x, l.a = some x → x.block < wb := fun x hx => by rw [← hB]; exact (ho.blk hx).2
  have hsz1 : w1.heap.size = wb + 1 := by rw [hw1, ← hB]; simp
  refine (table256_spec w1).mono ?_
  rintro e w3 ⟨rfl, f3⟩
  refine ⟨_, rfl, ?_⟩
  intro w5 hw5
  have f5 : Fr (fun _ => False) w3 w5 := hw5 ▸ Fr.alloc _ _ _
  have hz5 := alloc_new w3 (.cells (uv (List.replicate 64 0)).toArray T_64_uint32)
  generalize hKb : w3.heap.size = kb at hw5 hz5
  have hkb : wb < kb := by have := f3.size; omega
  have o5 : Own w5 kb T_64_uint32 ⟨some ⟨kb, 0, none⟩, 64, 64⟩ (uv (List.replicate 64 0)) :=
    ⟨rfl, .inr ⟨kb, _, rfl, Nat.le_refl _, by rw [hw5, ← hKb]; exact alloc_new _ _, Nat.le_refl _, by simp [maxLen], rfl, rfl⟩⟩
  obtain ⟨K, hKd⟩ : ∃ K, K256 = K := ⟨_, rfl⟩
  rw [hKd] at hK ⊢
  obtain ⟨w6, hr6, oK, f6⟩ := store_arr (P := Try.prog) (t := T_64_uint32) o5 hK (by kernel_rfl)
  refine ⟨w6, hr6, ?_⟩
  have hkb5 : kb < w5.heap.size := (o5.blk rfl).2
  have f16 : Fr (fun k => kb ≤ k) w1 w6 := ((f3.mono (by simp)).trans' (f5.mono (by simp))).trans f6 (fun q hq h => by omega)
  have o6 : Own w6 wb T_64_uint32 ⟨some ⟨wb, 0, none⟩, 64, 64⟩ (uv (arr (E2 P) 64 0)) := o1.keep f16 (fun x hx h => by cases hx; simp only at h; omega)
  have f06 : Fr (fun _ => False) w w6 := f1'.trans f16 (fun q hq h => by omega)
  have hwk : ∀ {w' w2 : World}, Fr (Vc.At ⟨some ⟨wb, 0, none⟩, 64, 64⟩) w' w2 → Own w' kb T_64_uint32 ⟨some ⟨kb, 0, none⟩, 64, 64⟩ (uv K) → Own w2 kb T_64_uint32 ⟨some ⟨kb, 0, none⟩, 64, 64⟩ (uv K) := fun {w' w2} hf o =>
    o.keep hf (fun x hx ⟨y, hy, e⟩ => by cases hx; cases hy; simp only at e; omega)
  have hX : ∀ {w' : World}, Fr (fun _ => False) w w' → ∀ {w2 : World}, Fr (Vc.At ⟨some ⟨wb, 0, none⟩, 64, 64⟩) w' w2 → Fr (fun _ => False) w w2 := fun {w'} hf {w2} h2 => hf.trans h2 fun q hq ⟨y, hy, e⟩ => by cases hy; simp only at e; omega
  refine ⟨fun i w' => ∃ k : Nat, k ≤ 64 ∧ i = (k : Int) ∧ Own w' wb T_64_uint32 ⟨some ⟨wb, 0, none⟩, 64, 64⟩ (uv (arr (E2 P) 64 k)) ∧ Own w' kb T_64_uint32 ⟨some ⟨kb, 0, none⟩, 64, 64⟩ (uv K) ∧ Fr (fun _ => False) w w', fun i _ => (64 - i).toNat,
    ⟨0, by decide, rfl, o6, oK, f06⟩, ?_⟩
  rintro i w10 ⟨k, hk, rfl, o10, oK10, f10⟩
  have hAl := arr_length (n := 64) (hE k) hk
  have e1 : IntKind.i64.wrap ((k : Int) + 1) = ((k + 1 : Nat) : Int) := by rw [wrap_i64 (by omega) (by omega)]; omega
  refine ⟨fun hlt => ?_, fun hge => ?_⟩
  · have hlt := of_decide_eq_true hlt
    have hk64 : k < 64 := by omega
    refine ⟨fun h16 => ?_, fun h16 => ?_⟩
    · have h16 := of_decide_eq_true h16
      have e4 : IntKind.i64.wrap (4 * (k : Int)) = ((4 * k : Nat) : Int) := by rw [wrap_i64 (by omega) (by omega)]; omega
      rw [e4, Int.toNat_natCast]
      refine ⟨⟨by omega, by omega⟩, ?_⟩
      refine (word_spec _ (by rw [ByteArray.size_extract]; omega) w10).mono ?_
      rintro e w12 ⟨rfl, d12⟩
      refine ⟨_, rfl, ⟨by omega, by omega⟩, ?_⟩
      have hx : be (p.extract (4 * k) p.size).data.toList 0 = be P (4 * k) := by
        rw [ext_toList, hPd, List.take_of_length_le (by rw [List.length_drop, ← hPd]; simp), be_drop]
      rw [hx, Int.toNat_natCast, Nat.mul_one, e1]
      obtain ⟨y, hy, hwr, hset⟩ := own_put (o10.drew d12) (i := k) (by omega) (be P (4 * k))
      cases hy
      refine ⟨hwr, fun w14 hw14 => ?_⟩
      obtain ⟨o14, f14⟩ := hset w14 hw14
      rw [arr_set (hE k) hk64 (E2_low P (by omega))] at o14
      exact ⟨⟨k + 1, by omega, rfl, o14, hwk f14 (oK10.drew d12), hX (f10.trans' (.drew _ d12)) f14⟩, by dsimp only; omega⟩
    · have h16 := of_decide_eq_false h16
      have g : ∀ {w' : World}, Own w' wb T_64_uint32 ⟨some ⟨wb, 0, none⟩, 64, 64⟩ (uv (arr (E2 P) 64 k)) → ∀ j, j < k → w'.cell? (Addr.add ⟨wb, 0, none⟩ j) = some (.int .u32 (((E2 P k).getD j 0).toNat : Int)) := fun {w'} o j hj => by
        obtain ⟨y, hy, hc⟩ := own_get o (i := j) (by omega)
        cases hy
        rw [arr_getD (hE k) hj] at hc; exact hc
      have r15 : IntKind.i64.wrap ((k : Int) - 15) = ((k - 15 : Nat) : Int) := by rw [wrap_i64 (by omega) (by omega)]; omega
      have r2 : IntKind.i64.wrap ((k : Int) - 2) = ((k - 2 : Nat) : Int) := by rw [wrap_i64 (by omega) (by omega)]; omega
      have r16 : IntKind.i64.wrap ((k : Int) - 16) = ((k - 16 : Nat) : Int) := by rw [wrap_i64 (by omega) (by omega)]; omega
      have r7 : IntKind.i64.wrap ((k : Int) - 7) = ((k - 7 : Nat) : Int) := by rw [wrap_i64 (by omega) (by omega)]; omega
      rw [r15, r2, r16, r7, e1]
      simp only [Int.toNat_natCast, Nat.mul_one]
      refine ⟨⟨by omega, by omega⟩, _, g o10 _ (by omega), ⟨by omega, by omega⟩, _, g o10 _ (by omega), fun w17 d17 w18 d18 => ?_⟩
      have o18 := (o10.drew d17).drew d18
      have oK18 := (oK10.drew d17).drew d18
      refine ⟨fun w => w = w18, rfl, ⟨by omega, by omega⟩, _, fun w hw => by rw [hw]; exact g o18 _ (by omega), by decide, ⟨by omega, by omega⟩, _, fun w hw => by rw [hw]; exact g o18 _ (by omega), by decide, ?_⟩
      refine (rot_spec _ (-7) 25 (by decide) (by decide) w18).mono ?_
      rintro e w25 ⟨rfl, rfl⟩
      refine ⟨_, rfl, rfl, ?_⟩
      refine (rot_spec _ (-18) 14 (by decide) (by decide) w25).mono ?_
      rintro e w28 ⟨rfl, rfl⟩
      refine ⟨_, rfl, rfl, ?_⟩
      refine (rot_spec _ (-17) 15 (by decide) (by decide) w28).mono ?_
      rintro e w31 ⟨rfl, rfl⟩
      refine ⟨_, rfl, rfl, ?_⟩
      refine (rot_spec _ (-19) 13 (by decide) (by decide) w31).mono ?_
      rintro e w34 ⟨rfl, rfl⟩
      refine ⟨_, rfl, rfl, ⟨by omega, by omega⟩, ?_⟩
      simp only [u_of, u_wrap, shr3, shr10, u_add]
      rw [← nxt2_at (hE k)]
      obtain ⟨y, hy, hwr, hset⟩ := own_put o18 (i := k) (by omega) (nxt2 (E2 P k))
      cases hy
      refine ⟨hwr, fun w36 hw36 => ?_⟩
      obtain ⟨o36, f36⟩ := hset w36 hw36
      rw [arr_set (hE k) hk64 (E2_high P (by omega))] at o36
      exact ⟨⟨k + 1, by omega, rfl, o36, hwk f36 oK18, hX ((f10.trans' (.drew _ d17)).trans' (.drew _ d18)) f36⟩, by omega⟩
  have hge := of_decide_eq_false hge
  have : k = 64 := by omega
  subst this
  have hfull : arr (E2 P) 64 64 = ext2 48 (words P) := by unfold arr; rw [Nat.sub_self, List.replicate_zero, List.append_nil, E2_ext P (by decide)]
  rw [hfull] at o10 hAl
  have hb2 : block2 K h P = adds h (rds2 K (ext2 48 (words P)) h) := rfl
  rw [hb2]
  generalize ext2 48 (words P) = S at o10 hAl ⊢
  have hKg : w10.heap.size > kb := (oK10.blk rfl).2
  intro w37 hw37
  have f37 : Fr (fun _ => False) w10 w37 := hw37 ▸ Fr.alloc _ _ _
  have hv37 : w37.heap[w10.heap.size]? = some (.cells (uv (List.replicate 8 0)).toArray T_8_uint32) := by rw [hw37]; exact alloc_new _ _
  generalize hV : w10.heap.size = vb at hw37 hv37 hKg
  have oh37 := (ho.keep f10 (by simp)).keep f37 (by simp)
  obtain ⟨x, hx, _⟩ := own_get oh37 (i := 0) (by omega)
  have hcopy := run_copy_row (P := Try.prog) w37 T_S_uint32 T_S_uint32 T_int T_uint32 vb 0 8 8 x l.len l.cap _ T_8_uint32 (uv h) elU32.sl (by kernel_rfl) hv37 (by rw [uv_len, hl, hlen]; rfl) (fun j v hv => by
    obtain ⟨y, hy, hc⟩ := oh37.reads j v hv
    rw [hx] at hy; cases hy; exact hc) (by rw [uv_len, hl]; simp) (one_uv h)
  have hsub : subA (some ⟨vb, 0, none⟩) 8 0 1 = some ⟨vb, 0, none⟩ := rfl
  rw [hsub, hx]
  refine ⟨_, _, hcopy, ?_⟩
  have hrow : ((uv (List.replicate 8 0)).toArray.toList.take 0 ++ uv h ++ (uv (List.replicate 8 (0 : W))).toArray.toList.drop (0 + (uv h).length)).toArray = (uv h).toArray := by
    rw [uv_len, hl]; simp [uv]
  rw [hrow]
  have hv38 := setRow_heap w37 vb _ (uv h).toArray T_8_uint32 (0, 0) hv37
  have f38 : Fr (· = vb) w37 (w37.setRow vb (uv h).toArray) := setRow_fr _ _ _ _ rfl
  generalize w37.setRow vb (uv h).toArray = w38 at hv38 f38
  have oV38 : Own w38 vb T_8_uint32 ⟨some ⟨vb, 0, none⟩, 8, 8⟩ (uv h) := ⟨by rw [uv_len, hl], .inr ⟨vb, _, rfl, Nat.le_refl _, hv38, Nat.le_refl _, by simp [maxLen], by simp [hl], List.take_of_length_le (by simp [hl])⟩⟩
  have oS38 := (o10.keep f37 (by simp)).keep f38 (fun y hy => by cases hy; simp only; omega)
  have oK38 := (oK10.keep f37 (by simp)).keep f38 (fun y hy => by cases hy; simp only; omega)
  have oh38 := oh37.keep f38 (fun y hy => by have := hlb y hy; omega)
  have f038 : Fr (fun _ => False) w w38 := (f10.trans' f37).trans f38 (fun q hq h => by have := f10.size; omega)
  have f3838 := f38.size
  have f37s := f37.size
  have hvb38 : vb < w38.heap.size := (oV38.blk rfl).2
  refine ⟨fun i w' => ∃ (k : Nat) (v : List W), k ≤ 64 ∧ i = (k : Int) ∧ v.length = 8 ∧ rds2 K S h = rds2 (K.drop k) (S.drop k) v ∧ Own w' vb T_8_uint32 ⟨some ⟨vb, 0, none⟩, 8, 8⟩ (uv v) ∧ Fr (· = vb) w38 w', fun i _ => (64 - i).toNat,
    ⟨0, h, by decide, rfl, hl, rfl, oV38, .refl _ _⟩, ?_⟩
  rintro i w43 ⟨k, v, hk, rfl, hvl, hv, oV, f43⟩
  refine ⟨fun hlt => ?_, fun hge => ?_⟩
  · have hlt := of_decide_eq_true hlt
    have e1 : IntKind.i64.wrap ((k : Int) + 1) = ((k + 1 : Nat) : Int) := by rw [wrap_i64 (by omega) (by omega)]; omega
    obtain ⟨a, b, c, d, e, f, g, q, rfl⟩ : ∃ a b c d e f g q, v = [a, b, c, d, e, f, g, q] := by
      match v, hvl with
      | [a, b, c, d, e, f, g, q], _ => exact ⟨_, _, _, _, _, _, _, _, rfl⟩
    have gv : ∀ {w' : World}, Own w' vb T_8_uint32 ⟨some ⟨vb, 0, none⟩, 8, 8⟩ (uv [a, b, c, d, e, f, g, q]) → ∀ j, j < 8 → w'.cell? (Addr.add ⟨vb, 0, none⟩ (j * 1)) = some (.int .u32 ((([a, b, c, d, e, f, g, q] : List W).getD j 0).toNat : Int)) := fun {w'} o j hj => by
      obtain ⟨y, hy, hc⟩ := own_get o (i := j) hj
      cases hy; rw [Nat.mul_one]; exact hc
    have hstep : rds2 (K.drop k) (S.drop k) [a, b, c, d, e, f, g, q] = rds2 (K.drop (k + 1)) (S.drop (k + 1)) (rd2 (K.getD k 0) (S.getD k 0) [a, b, c, d, e, f, g, q]) := by
      have hkK : k < K.length := by omega
      have hkS : k < S.length := by omega
      rw [List.drop_eq_getElem_cons hkK, List.drop_eq_getElem_cons hkS]
      simp [rds2, hkK, hkS]
    rw [e1]
    refine ⟨⟨by decide, by decide⟩, _, gv oV 0 (by decide), ⟨by decide, by decide⟩, _, gv oV 4 (by decide), fun w46 d46 w47 d47 => ?_⟩
    have oV47 := (oV.drew d46).drew d47
    have f47 := (f43.trans' (.drew _ d46)).trans' (.drew _ d47)
    have oK47 : Own w47 kb T_64_uint32 ⟨some ⟨kb, 0, none⟩, 64, 64⟩ (uv K) := oK38.keep f47 (fun y hy => by cases hy; simp only; omega)
    have oS47 : Own w47 wb T_64_uint32 ⟨some ⟨wb, 0, none⟩, 64, 64⟩ (uv S) := oS38.keep f47 (fun y hy => by cases hy; simp only; omega)
    obtain ⟨y, hy, hcK⟩ := own_get oK47 (i := k) (by omega)
    cases hy
    obtain ⟨y, hy, hcS⟩ := own_get oS47 (i := k) (by omega)
    cases hy
    refine ⟨fun w => w = w47, rfl, ⟨by decide, by decide⟩, _, fun w hw => by rw [hw]; exact gv oV47 7 (by decide), ⟨by decide, by decide⟩, _, fun w hw => by rw [hw]; exact gv oV47 5 (by decide), ⟨by decide, by decide⟩, _, fun w hw => by rw [hw]; exact gv oV47 6 (by decide),
      ⟨by omega, by omega⟩, _, fun w hw => by rw [hw, Int.toNat_natCast, Nat.mul_one]; exact hcK, ⟨by omega, by omega⟩, _, fun w hw => by rw [hw, Int.toNat_natCast, Nat.mul_one]; exact hcS, ?_⟩
    refine (rot_spec _ (-6) 26 (by decide) (by decide) w47).mono ?_
    rintro e w60 ⟨rfl, rfl⟩
    refine ⟨_, rfl, rfl, ?_⟩
    refine (rot_spec _ (-11) 21 (by decide) (by decide) w60).mono ?_
    rintro e w63 ⟨rfl, rfl⟩
    refine ⟨_, rfl, rfl, ?_⟩
    refine (rot_spec _ (-25) 7 (by decide) (by decide) w63).mono ?_
    rintro e w66 ⟨rfl, rfl⟩
    refine ⟨_, rfl, rfl, ?_⟩
    intro w68 d68
    have oV68 := oV47.drew d68
    refine ⟨fun w => w = w68, rfl, ⟨by decide, by decide⟩, _, fun w hw => by rw [hw]; exact gv oV68 1 (by decide), ⟨by decide, by decide⟩, _, fun w hw => by rw [hw]; exact gv oV68 2 (by decide), ⟨by decide, by decide⟩, _, fun w hw => by rw [hw]; exact gv oV68 1 (by decide),
      ⟨by decide, by decide⟩, _, fun w hw => by rw [hw]; exact gv oV68 2 (by decide), ?_⟩
    refine (rot_spec _ (-2) 30 (by decide) (by decide) w68).mono ?_
    rintro e w79 ⟨rfl, rfl⟩
    refine ⟨_, rfl, rfl, ?_⟩
    refine (rot_spec _ (-13) 19 (by decide) (by decide) w79).mono ?_
    rintro e w82 ⟨rfl, rfl⟩
    refine ⟨_, rfl, rfl, ?_⟩
    refine (rot_spec _ (-22) 10 (by decide) (by decide) w82).mono ?_
    rintro e w85 ⟨rfl, rfl⟩
    refine ⟨_, rfl, rfl, ⟨by decide, by decide⟩, _, gv oV68 0 (by decide), ⟨by decide, by decide⟩, _, gv oV68 1 (by decide), ⟨by decide, by decide⟩, _, gv oV68 2 (by decide), ⟨by decide, by decide⟩, _, gv oV68 3 (by decide), ⟨by decide, by decide⟩, _, gv oV68 4 (by decide),
      ⟨by decide, by decide⟩, _, gv oV68 5 (by decide), ⟨by decide, by decide⟩, _, gv oV68 6 (by decide), ?_⟩
    rw [neg32]
    simp only [u_of, u_wrap, u_add, BitVec.allOnes_xor]
    obtain ⟨w94, hr94, o94, f94⟩ := store_arr (P := Try.prog) (t := T_8_uint32) (ys := rd2 (K.getD k 0) (S.getD k 0) [a, b, c, d, e, f, g, q]) oV68 rfl (by kernel_rfl)
    refine ⟨w94, hr94, ⟨k + 1, _, by omega, rfl, rfl, by rw [hv, hstep], o94, ((f47.trans' (.drew _ d68)).trans' f94)⟩, by omega⟩
  have hge := of_decide_eq_false hge
  have : k = 64 := by omega
  subst this
  have hKn : K.drop 64 = [] := List.drop_eq_nil_of_le (by omega)
  have hSn : S.drop 64 = [] := List.drop_eq_nil_of_le (by omega)
  rw [hKn, hSn] at hv
  have hv : rds2 K S h = v := hv
  rw [hv]
  have oh43 := oh38.keep f43 (fun y hy => by have := hlb y hy; omega)
  have f043 : Fr (fun _ => False) w w43 := f038.trans f43 (fun q hq h => by have := f10.size; omega)
  refine ⟨fun i w' => ∃ k : Nat, k ≤ 8 ∧ i = (k : Int) ∧ Own w' base T_uint32 l (uv (mix h v k)) ∧ Fr (Vc.At l) w43 w', fun i _ => (8 - i).toNat, ⟨0, by decide, rfl, by simpa [mix] using oh43, .refl _ _⟩, ?_⟩
  rintro i w98 ⟨k, hk, rfl, om, f98⟩
  refine ⟨fun hlt => ?_, fun hge => ?_⟩
  · have hlt := of_decide_eq_true hlt
    have e1 : IntKind.i64.wrap ((k : Int) + 1) = ((k + 1 : Nat) : Int) := by rw [wrap_i64 (by omega) (by omega)]; omega
    obtain ⟨m1, m2, m3⟩ := mix_next (h := h) (v := v) (i := k) (by omega) (by omega)
    rw [e1]
    intro w99 d99
    have om99 := om.drew d99
    have oV99 : Own w99 vb T_8_uint32 ⟨some ⟨vb, 0, none⟩, 8, 8⟩ (uv v) := (oV.keep f98 (fun y hy ⟨z, hz, e⟩ => by cases hy; have := hlb z hz; simp only at e; omega)).drew d99
    obtain ⟨y, hy, hc1⟩ := own_get om99 (i := k) (by omega)
    obtain ⟨z, hz, hc2⟩ := own_get oV99 (i := k) (by omega)
    cases hz
    rw [m2] at hc1
    obtain ⟨y', hy', hwr, hset⟩ := own_put om99 (i := k) (by omega) (h.getD k 0 + v.getD k 0)
    rw [hy] at hy'; cases hy'
    rw [Int.toNat_natCast, Nat.mul_one]
    refine ⟨⟨by omega, by omega⟩, y, hx ▸ hy, _, hc1, ⟨by omega, by omega⟩, _, hc2, ⟨by omega, by omega⟩, y, hx ▸ hy, hwr, ?_⟩
    rw [u_add]
    intro w104 hw104
    obtain ⟨o104, f104⟩ := hset w104 hw104
    rw [m1] at o104
    exact ⟨⟨k + 1, by omega, rfl, o104, (f98.trans' (.drew _ d99)).trans' f104⟩, by dsimp only; omega⟩
  · have hge := of_decide_eq_false hge
    have : k = 8 := by omega
    subst this
    have hmix : mix h v 8 = adds h v := by
      unfold mix
      have hal : (adds h v).length = 8 := by rw [adds_zip, List.length_zipWith]; omega
      rw [List.take_of_length_le (by omega), List.drop_eq_nil_of_le (by omega), List.append_nil]
    rw [hmix] at om
    exact ⟨rfl, om, (f043.mono (by simp)).trans' f98⟩
end Go.Proofs.Ytcboiljbkkleiaa
