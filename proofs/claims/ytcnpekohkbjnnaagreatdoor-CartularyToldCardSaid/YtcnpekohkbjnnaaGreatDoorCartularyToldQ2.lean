/- Texts of this seat in one: made by a program of ours. -/
import Derived.Test.YtcnpekohkbjnnaaGreatDoorCartularyToldQ0
import Derived.Test.YtcnpekohkbjnnaaGreatDoorCartularyToldQ1
import Derived.Laws.CopyRow
import Derived.Test.YtcnpekohkbjnnaaGreatDoorProg
import Derived.Shelf.Lays
import Derived.Shelf.LaysM
import Derived.Shelf.Strings.BuilderX
import Derived.Shelf.Strconv.Itoa3
import Derived.Shelf.Strconv.Atoi
import Derived.Lib.LaidTab
/- What block1 of the package sha does. Conditions: the words are five, in a slice of the call's own; the text has 64 bytes. -/
set_option linter.unusedVariables false
namespace Go.Proofs.YtcnpekohkbjnnaaGreatDoor
open Go Vc ShaM Go.Proofs

theorem block1_spec {w : World} {base : Nat} {l : Sl} {h : List W} (ho : Vc.Own w base T_uint32 l (uv h)) (hl : h.length = 5) (p : ByteArray) (hp : p.size = 64) :
    Calls Tryz.prog F_sha_block1 #[.slice l.a l.len l.cap, .string p] w fun e w' => e = .returned (.tuple #[]) ∧ Vc.Own w' base T_uint32 l (uv (block1 h p.data.toList)) ∧ Fr (Vc.At l) w w' := by
  refine vc_sha_block1_ok (R := fun v w' => v = .tuple #[] ∧ Vc.Own w' base T_uint32 l (uv (block1 h p.data.toList)) ∧ Fr (Vc.At l) w w') ?_ (fun v w' h => ⟨by rw [h.1], h.2⟩)
  intro w1 hw1
  have f1' : Fr (fun _ => False) w w1 := hw1 ▸ Fr.alloc _ _ _
  generalize hB : w.heap.size = wb at hw1
  obtain ⟨P, hPd⟩ : ∃ P, p.data.toList = P := ⟨_, rfl⟩
  rw [hPd]
  have hE : ∀ k, (E1 P k).length = k := E1_length P
  have o1 : Vc.Own w1 wb T_80_uint32 ⟨some ⟨wb, 0, none⟩, 80, 80⟩ (uv (arr (E1 P) 80 0)) := by
    refine ⟨rfl, .inr ⟨wb, _, rfl, Nat.le_refl _, by rw [hw1, ← hB]; exact alloc_new _ _, Nat.le_refl _, by simp [maxLen], rfl, rfl⟩⟩
  have hlen : l.len = 5 := by rw [ho.len, uv_len, hl]
  refine ⟨fun i w' => ∃ k : Nat, k ≤ 80 ∧ i = (k : Int) ∧ Vc.Own w' wb T_80_uint32 ⟨some ⟨wb, 0, none⟩, 80, 80⟩ (uv (arr (E1 P) 80 k)) ∧ Fr (fun _ => False) w w', fun i _ => (80 - i).toNat, ⟨0, by decide, rfl, o1, f1'⟩, ?_⟩
  rintro i w5 ⟨k, hk, rfl, o5, f5⟩
  have hAl := arr_length (n := 80) (hE k) hk
  have e1 : IntKind.i64.wrap ((k : Int) + 1) = ((k + 1 : Nat) : Int) := by rw [wrap_i64 (by omega) (by omega)]; omega
  have hX : ∀ {w' : World}, Fr (fun _ => False) w w' → ∀ {w2 : World}, Fr (Vc.At ⟨some ⟨wb, 0, none⟩, 80, 80⟩) w' w2 → Fr (fun _ => False) w w2 := fun {w'} hf {w2} h2 => hf.trans h2 fun q hq ⟨y, hy, e⟩ => by cases hy; simp only at e; omega
  refine ⟨fun hlt => ?_, fun hge => ?_⟩
  · have hlt := of_decide_eq_true hlt
    have hk80 : k < 80 := by omega
    refine ⟨fun h16 => ?_, fun h16 => ?_⟩
    · have h16 := of_decide_eq_true h16
      have e4 : IntKind.i64.wrap (4 * (k : Int)) = ((4 * k : Nat) : Int) := by rw [wrap_i64 (by omega) (by omega)]; omega
      rw [e4, Int.toNat_natCast]
      refine ⟨⟨by omega, by omega⟩, ?_⟩
      refine (word_spec _ (by rw [ByteArray.size_extract]; omega) w5).mono ?_
      rintro e w7 ⟨rfl, d7⟩
      refine ⟨_, rfl, ⟨by omega, by omega⟩, ?_⟩
      have hx : be (p.extract (4 * k) p.size).data.toList 0 = be P (4 * k) := by
        rw [ext_toList, hPd, List.take_of_length_le (by rw [List.length_drop, ← hPd]; simp), be_drop]
      rw [hx, Int.toNat_natCast, Nat.mul_one, e1]
      obtain ⟨y, hy, hwr, hset⟩ := own_put (o5.drew d7) (i := k) (by omega) (be P (4 * k))
      cases hy
      refine ⟨hwr, fun w9 hw9 => ?_⟩
      obtain ⟨o9, f9⟩ := hset w9 hw9
      rw [arr_set (hE k) hk80 (E1_low P (by omega))] at o9
      exact ⟨⟨k + 1, by omega, rfl, o9, hX (f5.trans' (.drew _ d7)) f9⟩, by dsimp only; omega⟩
    · have h16 := of_decide_eq_false h16
      intro w10 d10
      have o10 := o5.drew d10
      have g : ∀ j, j < k → w10.cell? (Addr.add ⟨wb, 0, none⟩ j) = some (.int .u32 (((E1 P k).getD j 0).toNat : Int)) := fun j hj => by
        obtain ⟨y, hy, hc⟩ := own_get o10 (i := j) (by omega)
        cases hy
        rw [arr_getD (hE k) hj] at hc; exact hc
      have s3 : (IntKind.i64.wrap ((k : Int) - 3)).toNat = k - 3 := by rw [wrap_i64 (by omega) (by omega)]; omega
      have s8 : (IntKind.i64.wrap ((k : Int) - 8)).toNat = k - 8 := by rw [wrap_i64 (by omega) (by omega)]; omega
      have s14 : (IntKind.i64.wrap ((k : Int) - 14)).toNat = k - 14 := by rw [wrap_i64 (by omega) (by omega)]; omega
      have s16 : (IntKind.i64.wrap ((k : Int) - 16)).toNat = k - 16 := by rw [wrap_i64 (by omega) (by omega)]; omega
      have r3 : IntKind.i64.wrap ((k : Int) - 3) = ((k - 3 : Nat) : Int) := by rw [wrap_i64 (by omega) (by omega)]; omega
      have r8 : IntKind.i64.wrap ((k : Int) - 8) = ((k - 8 : Nat) : Int) := by rw [wrap_i64 (by omega) (by omega)]; omega
      have r14 : IntKind.i64.wrap ((k : Int) - 14) = ((k - 14 : Nat) : Int) := by rw [wrap_i64 (by omega) (by omega)]; omega
      have r16 : IntKind.i64.wrap ((k : Int) - 16) = ((k - 16 : Nat) : Int) := by rw [wrap_i64 (by omega) (by omega)]; omega
      refine ⟨fun w => w = w10, rfl, by rw [r3]; exact ⟨by omega, by omega⟩, _, fun w hw => by rw [hw, s3, Nat.mul_one]; exact g _ (by omega), by rw [r8]; exact ⟨by omega, by omega⟩, _, fun w hw => by rw [hw, s8, Nat.mul_one]; exact g _ (by omega),
        by rw [r14]; exact ⟨by omega, by omega⟩, _, fun w hw => by rw [hw, s14, Nat.mul_one]; exact g _ (by omega), by rw [r16]; exact ⟨by omega, by omega⟩, _, fun w hw => by rw [hw, s16, Nat.mul_one]; exact g _ (by omega), ?_⟩
      simp only [u_of, u_wrap]
      refine (rot_spec _ 1 1 (by decide) (by decide) w10).mono ?_
      rintro e w21 ⟨rfl, rfl⟩
      refine ⟨_, rfl, rfl, ⟨by omega, by omega⟩, ?_⟩
      rw [← nxt1_at (hE k), Int.toNat_natCast, Nat.mul_one, e1]
      obtain ⟨y, hy, hwr, hset⟩ := own_put o10 (i := k) (by omega) (nxt1 (E1 P k))
      cases hy
      refine ⟨hwr, fun w9 hw9 => ?_⟩
      obtain ⟨o9, f9⟩ := hset w9 hw9
      rw [arr_set (hE k) hk80 (E1_high P (by omega))] at o9
      exact ⟨⟨k + 1, by omega, rfl, o9, hX (f5.trans' (.drew _ d10)) f9⟩, by omega⟩
  have hge := of_decide_eq_false hge
  have : k = 80 := by omega
  subst this
  have hfull : arr (E1 P) 80 80 = ext1 64 (words P) := by unfold arr; rw [Nat.sub_self, List.replicate_zero, List.append_nil, E1_ext P (by decide)]
  rw [hfull] at o5 hAl
  obtain ⟨h0, h1, h2, h3, h4, rfl⟩ : ∃ a b c d e, h = [a, b, c, d, e] := by
    match h, hl with
    | [a, b, c, d, e], _ => exact ⟨_, _, _, _, _, rfl⟩
  have oh := ho.keep f5 (by simp)
  have rd : ∀ {w' : World}, Vc.Own w' base T_uint32 l (uv [h0, h1, h2, h3, h4]) → ∃ x, l.a = some x ∧ w'.cell? (x.add 0) = some (.int .u32 (h0.toNat : Int)) ∧ w'.cell? (x.add 1) = some (.int .u32 (h1.toNat : Int)) ∧ w'.cell? (x.add 2) = some (.int .u32 (h2.toNat : Int)) ∧
      w'.cell? (x.add 3) = some (.int .u32 (h3.toNat : Int)) ∧ w'.cell? (x.add 4) = some (.int .u32 (h4.toNat : Int)) := fun {w'} o => by
    obtain ⟨x, hx, c0⟩ := own_get o (i := 0) (by simp)
    obtain ⟨x1, hx1, c1⟩ := own_get o (i := 1) (by simp)
    obtain ⟨x2, hx2, c2⟩ := own_get o (i := 2) (by simp)
    obtain ⟨x3, hx3, c3⟩ := own_get o (i := 3) (by simp)
    obtain ⟨x4, hx4, c4⟩ := own_get o (i := 4) (by simp)
    rw [hx] at hx1 hx2 hx3 hx4
    cases hx1; cases hx2; cases hx3; cases hx4
    exact ⟨x, hx, c0, c1, c2, c3, c4⟩
  obtain ⟨x, hx, c0, c1, c2, c3, c4⟩ := rd oh
  rw [hlen]
  refine ⟨⟨by decide, by decide⟩, x, hx, _, c0, ⟨by decide, by decide⟩, x, hx, _, c1, ⟨by decide, by decide⟩, x, hx, _, c2, ⟨by decide, by decide⟩, x, hx, _, c3, ⟨by decide, by decide⟩, x, hx, _, c4, fun w34 d34 => ?_⟩
  have o34 := o5.drew d34
  have oh34 := oh.drew d34
  have hload := load_agg (P := Tryz.prog) (t := T_80_uint32) (w := w34) (a := ⟨wb, 0, none⟩) (vs := uv (ext1 64 (words P))) (agg_of (by kernel_rfl)) (by rw [uv_len, hAl]; kernel_rfl) (fun j v hv => by
    obtain ⟨y, hy, hc⟩ := o34.reads j v hv
    cases hy; exact hc)
  refine ⟨_, hload, ?_⟩
  obtain ⟨S, hS⟩ : ∃ S, ext1 64 (words P) = S := ⟨_, rfl⟩
  rw [hS] at hAl ⊢
  have hbl : block1 [h0, h1, h2, h3, h4] P = adds [h0, h1, h2, h3, h4] (rds1 0 S [h0, h1, h2, h3, h4]) := by unfold block1; rw [hS]
  rw [hbl]
  refine ⟨fun a b c d e i w' => w' = w34 ∧ ∃ (A B C D E : W) (k : Nat), k ≤ 80 ∧ i = (k : Int) ∧ a = (A.toNat : Int) ∧ b = (B.toNat : Int) ∧ c = (C.toNat : Int) ∧ d = (D.toNat : Int) ∧ e = (E.toNat : Int) ∧ rds1 0 S [h0, h1, h2, h3, h4] = rds1 k (S.drop k) [A, B, C, D, E],
    fun _ _ _ _ _ i _ => (80 - i).toNat, ⟨rfl, h0, h1, h2, h3, h4, 0, by decide, rfl, rfl, rfl, rfl, rfl, rfl, rfl⟩, ?_⟩
  rintro a b c d e i w44 ⟨rfl, A, B, C, D, E, k, hk, rfl, rfl, rfl, rfl, rfl, rfl, hv⟩
  have e1 : IntKind.i64.wrap ((k : Int) + 1) = ((k + 1 : Nat) : Int) := by rw [wrap_i64 (by omega) (by omega)]; omega
  refine ⟨fun hlt => ?_, fun hge => ?_⟩
  · have hlt := of_decide_eq_true hlt
    have hk80 : k < 80 := by omega
    have hidx := index_agg (P := Tryz.prog) (w := w44) T_80_uint32 T_uint32 80 (uv S) .i64 k (by kernel_rfl) (by kernel_rfl) (by rw [uv_len]; omega) hk80 (by kernel_rfl)
    have hget : (uv S).getD k undef = .int .u32 ((S.getD k 0).toNat : Int) := by rw [List.getD_eq_getElem?_getD, uv_get (by omega)]; rfl
    rw [hget] at hidx
    refine ⟨w44, _, hidx, ?_⟩
    rw [rds1_step (by omega)] at hv
    have etd : IntKind.i64.wrap (Int.tdiv (k : Int) 20) = ((k / 20 : Nat) : Int) := by rw [Int.tdiv_eq_ediv_of_nonneg (by omega), wrap_i64 (by omega) (by omega)]; omega
    rw [etd]
    obtain ⟨q1, q2, q3, q4⟩ := f1_eq k B C D
    refine ⟨fun f q w' => f = ((f1 k B C D).toNat : Int) ∧ q = ((k1 k).toNat : Int) ∧ w' = w44, ⟨by decide, fun h => ?_, fun h => ⟨fun h => ?_, fun h' => ⟨fun h => ?_, fun h'' => ?_⟩⟩⟩, ?_⟩
    · have h : ((k / 20 : Nat) : Int) = 0 := by simpa using h
      obtain ⟨g1, g2⟩ := q1 (by omega)
      rw [g1, g2, neg32]
      exact ⟨by simp only [u_of, u_wrap, BitVec.allOnes_xor], rfl, rfl⟩
    · have h : ((k / 20 : Nat) : Int) = 1 := by simpa using h
      obtain ⟨g1, g2⟩ := q2 (by omega) (by omega)
      rw [g1, g2]
      exact ⟨by simp only [u_of, u_wrap], rfl, rfl⟩
    · have h : ((k / 20 : Nat) : Int) = 2 := by simpa using h
      obtain ⟨g1, g2⟩ := q3 (by omega) (by omega)
      rw [g1, g2]
      exact ⟨by simp only [u_of, u_wrap], rfl, rfl⟩
    · have h : ¬ ((k / 20 : Nat) : Int) = 0 := by simpa using h
      have h' : ¬ ((k / 20 : Nat) : Int) = 1 := by simpa using h'
      have h'' : ¬ ((k / 20 : Nat) : Int) = 2 := by simpa using h''
      obtain ⟨g1, g2⟩ := q4 (by omega)
      rw [g1, g2]
      exact ⟨by simp only [u_of, u_wrap], rfl, rfl⟩
    rintro f q w50 ⟨rfl, rfl, rfl⟩
    refine (rot_spec A 5 5 (by decide) (by decide) w50).mono ?_
    rintro e w52 ⟨rfl, rfl⟩
    refine ⟨_, rfl, ?_⟩
    refine (rot_spec B 30 30 (by decide) (by decide) w52).mono ?_
    rintro e w55 ⟨rfl, rfl⟩
    refine ⟨_, rfl, ?_⟩
    rw [e1, u_add, u_add, u_add, u_add]
    exact ⟨⟨rfl, _, _, _, _, _, k + 1, by omega, rfl, rfl, rfl, rfl, rfl, rfl, hv⟩, by dsimp only; omega⟩
  · have hge := of_decide_eq_false hge
    have : k = 80 := by omega
    subst this
    rw [List.drop_eq_nil_of_le (by omega)] at hv
    have hv : rds1 0 S [h0, h1, h2, h3, h4] = [A, B, C, D, E] := hv
    rw [hv]
    have fin : adds [h0, h1, h2, h3, h4] [A, B, C, D, E] = [h0 + A, h1 + B, h2 + C, h3 + D, h4 + E] := rfl
    rw [fin]
    obtain ⟨x, hx, c0, c1, c2, c3, c4⟩ := rd oh34
    have P0 := own_put oh34 (i := 0) (by simp) (h0 + A)
    obtain ⟨y, hy, hwr, hset⟩ := P0
    rw [hx] at hy; cases hy
    refine ⟨⟨by decide, by decide⟩, x, hx, _, c0, ⟨by decide, by decide⟩, x, hx, hwr, ?_⟩
    rw [u_add]
    intro w60 hw60
    obtain ⟨o60, f60⟩ := hset w60 hw60
    obtain ⟨y, hy, c1⟩ := own_get o60 (i := 1) (by simp)
    rw [hx] at hy; cases hy
    obtain ⟨y, hy, hwr, hset⟩ := own_put o60 (i := 1) (by simp) (h1 + B)
    rw [hx] at hy; cases hy
    refine ⟨⟨by decide, by decide⟩, x, hx, _, c1, ⟨by decide, by decide⟩, x, hx, hwr, ?_⟩
    rw [show ([h0, h1, h2, h3, h4].set 0 (h0 + A)).getD 1 0 = h1 from rfl, u_add]
    intro w64 hw64
    obtain ⟨o64, f64⟩ := hset w64 hw64
    obtain ⟨y, hy, c2⟩ := own_get o64 (i := 2) (by simp)
    rw [hx] at hy; cases hy
    obtain ⟨y, hy, hwr, hset⟩ := own_put o64 (i := 2) (by simp) (h2 + C)
    rw [hx] at hy; cases hy
    refine ⟨⟨by decide, by decide⟩, x, hx, _, c2, ⟨by decide, by decide⟩, x, hx, hwr, ?_⟩
    rw [show (([h0, h1, h2, h3, h4].set 0 (h0 + A)).set 1 (h1 + B)).getD 2 0 = h2 from rfl, u_add]
    intro w68 hw68
    obtain ⟨o68, f68⟩ := hset w68 hw68
    obtain ⟨y, hy, c3⟩ := own_get o68 (i := 3) (by simp)
    rw [hx] at hy; cases hy
    obtain ⟨y, hy, hwr, hset⟩ := own_put o68 (i := 3) (by simp) (h3 + D)
    rw [hx] at hy; cases hy
    refine ⟨⟨by decide, by decide⟩, x, hx, _, c3, ⟨by decide, by decide⟩, x, hx, hwr, ?_⟩
    rw [show ((([h0, h1, h2, h3, h4].set 0 (h0 + A)).set 1 (h1 + B)).set 2 (h2 + C)).getD 3 0 = h3 from rfl, u_add]
    intro w72 hw72
    obtain ⟨o72, f72⟩ := hset w72 hw72
    obtain ⟨y, hy, c4⟩ := own_get o72 (i := 4) (by simp)
    rw [hx] at hy; cases hy
    obtain ⟨y, hy, hwr, hset⟩ := own_put o72 (i := 4) (by simp) (h4 + E)
    rw [hx] at hy; cases hy
    refine ⟨⟨by decide, by decide⟩, x, hx, _, c4, ⟨by decide, by decide⟩, x, hx, hwr, ?_⟩
    rw [show (((([h0, h1, h2, h3, h4].set 0 (h0 + A)).set 1 (h1 + B)).set 2 (h2 + C)).set 3 (h3 + D)).getD 4 0 = h4 from rfl, u_add]
    intro w76 hw76
    obtain ⟨o76, f76⟩ := hset w76 hw76
    exact ⟨rfl, o76, ((((((f5.mono (by simp)).trans' (.drew _ d34)).trans' f60).trans' f64).trans' f68).trans' f72).trans' f76⟩
end Go.Proofs.YtcnpekohkbjnnaaGreatDoor

/- Words in a row, stored; sums of words. No condition. -/
set_option linter.unusedVariables false
namespace Go.Proofs.YtcnpekohkbjnnaaGreatDoor
open Go Vc ShaM Go.Proofs

theorem one_uv (l : List W) : ∀ u ∈ uv l, u.oneCell' = true := fun u h => by
  obtain ⟨b, _, rfl⟩ := List.mem_map.1 h; rfl
theorem setRow_fr (X : Nat → Prop) (w : World) (g : Nat) (cs : Array Value) (h : X g) : Fr X w (w.setRow g cs) :=
  ⟨rfl, rfl, rfl, by simp [World.setRow], fun k _ hx => by
    simp only [World.setRow, Array.getElem?_modify]
    rw [if_neg (fun e => hx (by rw [← e]; exact h))]⟩
/-- A whole array stored. -/
theorem store_arr {P : Program} {w : World} {base g n : Nat} {e t : TypeId} {xs ys : List W} (h : Vc.Own w base e ⟨some ⟨g, 0, none⟩, n, n⟩ (uv xs)) (hy : ys.length = n) (hi : (P.info? t).map (·.size) = some n) :
    ∃ w', (storeVar t ⟨g, 0, none⟩ (.agg (uv ys).toArray)).run P w = .ok () w' ∧ Vc.Own w' base e ⟨some ⟨g, 0, none⟩, n, n⟩ (uv ys) ∧ Fr (· = g) w w' := by
  have hn := h.1
  rcases h.2 with ⟨ha, _⟩ | ⟨g', cur, ha, hb, hg, hl, hm, hs, ht⟩
  · cases ha
  · cases ha
    have hr := run_storeVar_row (P := P) w g e t cur (uv ys).toArray hg (by rw [hi, List.size_toArray, uv_len, hy]) (by simp [hy]; exact hs)
      (by rw [Array.all_eq_true_iff_forall_mem]; intro v hv; exact one_uv ys v (by simpa using hv))
    refine ⟨_, hr, ⟨by rw [uv_len, hy], .inr ⟨g, _, rfl, hb, setRow_heap w g cur _ e (0, 0) hg, hl, hm, by rw [List.size_toArray, uv_len, hy], ?_⟩⟩, setRow_fr _ w g _ rfl⟩
    exact List.take_of_length_le (by simp [hy])
set_option maxRecDepth 100000 in
theorem adds_zip : ∀ (h v : List W), adds h v = List.zipWith (· + ·) h v
  | [], _ => by simp [adds]
  | a :: h, [] => by simp [adds]
  | a :: h, b :: v => by simp [adds, adds_zip h v]
/-- The words while they are added. -/
def mix (h v : List W) (i : Nat) : List W := (adds h v).take i ++ h.drop i
theorem mix_next {h v : List W} {i : Nat} (hl : h.length = v.length) (hi : i < h.length) : (mix h v i).set i (h.getD i 0 + v.getD i 0) = mix h v (i + 1) ∧ (mix h v i).getD i 0 = h.getD i 0 ∧ (mix h v i).length = h.length := by
  have hal : (adds h v).length = h.length := by rw [adds_zip, List.length_zipWith]; omega
  have htl : ((adds h v).take i).length = i := by rw [List.length_take]; omega
  have hx : (adds h v)[i]'(by omega) = h.getD i 0 + v.getD i 0 := by
    simp only [adds_zip, List.getElem_zipWith, List.getD_eq_getElem?_getD, List.getElem?_eq_getElem hi, List.getElem?_eq_getElem (show i < v.length by omega), Option.getD_some]
  refine ⟨?_, ?_, ?_⟩
  · unfold mix
    rw [List.set_append_right _ _ (by omega), htl, Nat.sub_self, List.take_succ_eq_append_getElem (by omega), hx, List.append_assoc, List.drop_eq_getElem_cons hi]
    rfl
  · unfold mix
    rw [List.getD_eq_getElem?_getD, List.getElem?_append_right (by omega), htl, Nat.sub_self, List.getElem?_drop]
    rw [List.getD_eq_getElem?_getD]; rfl
  · unfold mix
    rw [List.length_append, List.length_drop, htl]; omega
end Go.Proofs.YtcnpekohkbjnnaaGreatDoor

/- Plain facts: a sum is added up text by text. -/
set_option linter.unusedVariables false
namespace ShaM
/-- What waits for a whole block. -/
def rest (t : List UInt8) : List UInt8 := t.drop (64 * (t.length / 64))
/-- The words behind the whole blocks. -/
def stt (f : List W → List UInt8 → List W) (st : List W) (t : List UInt8) : List W := blocks f (t.length / 64) st t
theorem rest_length (t : List UInt8) : (rest t).length = t.length % 64 := by unfold rest; rw [List.length_drop]; omega
theorem blocks_add (f : List W → List UInt8 → List W) : ∀ (a b : Nat) (h : List W) (t : List UInt8), blocks f (a + b) h t = blocks f b (blocks f a h t) (t.drop (64 * a))
  | 0, b, h, t => by simp [blocks]
  | a + 1, b, h, t => by
    rw [show a + 1 + b = (a + b) + 1 by omega]
    simp only [blocks]
    rw [blocks_add f a b, List.drop_drop]
    congr 2; omega
theorem blocks_app (f : List W → List UInt8 → List W) : ∀ (n : Nat) (h : List W) (t u : List UInt8), 64 * n ≤ t.length → blocks f n h (t ++ u) = blocks f n h t
  | 0, h, t, u, _ => rfl
  | n + 1, h, t, u, hl => by
    simp only [blocks]
    rw [List.take_append_of_le_length (by omega), List.drop_append_of_le_length (by omega), blocks_app f n _ _ u (by rw [List.length_drop]; omega)]
theorem step_all (f : List W → List UInt8 → List W) (st : List W) (t x : List UInt8) :
    blocks f ((rest t ++ x).length / 64) (stt f st t) (rest t ++ x) = stt f st (t ++ x) ∧ (rest t ++ x).drop (64 * ((rest t ++ x).length / 64)) = rest (t ++ x) := by
  have h1 : rest t ++ x = (t ++ x).drop (64 * (t.length / 64)) := by unfold rest; rw [List.drop_append_of_le_length (by omega)]
  have h2 : (t ++ x).length / 64 = t.length / 64 + (rest t ++ x).length / 64 := by rw [List.length_append, List.length_append, rest_length]; omega
  constructor
  · unfold stt
    rw [h2, blocks_add, blocks_app f _ _ t x (by omega), h1]
  · show _ = (t ++ x).drop (64 * ((t ++ x).length / 64))
    rw [h2]
    generalize (rest t ++ x).length / 64 = q
    rw [h1, List.drop_drop, Nat.mul_add]
theorem blocks_step (f : List W → List UInt8 → List W) (q : Nat) (h : List W) (t : List UInt8) : blocks f (q + 1) h t = f (blocks f q h t) ((t.drop (64 * q)).take 64) := by
  rw [blocks_add f q 1]; rfl
theorem blocks_length {f : List W → List UInt8 → List W} {k : Nat} (hf : ∀ h p, h.length = k → (f h p).length = k) : ∀ (n : Nat) (h : List W) (t : List UInt8), h.length = k → (blocks f n h t).length = k
  | 0, h, t, hl => hl
  | n + 1, h, t, hl => blocks_length hf n _ _ (hf _ _ hl)
theorem adds_length : ∀ {h v : List W}, h.length = v.length → (adds h v).length = h.length
  | [], [], _ => rfl
  | a :: h, b :: v, hl => by simp only [adds, List.length_cons]; rw [adds_length (by simpa using hl)]
theorem rd1_length (i : Nat) (x : W) (v : List W) : (rd1 i x v).length = v.length := by
  unfold rd1; split <;> rfl
theorem rds1_length : ∀ (i : Nat) (l v : List W), (rds1 i l v).length = v.length
  | _, [], v => rfl
  | i, x :: r, v => by rw [rds1, rds1_length (i + 1) r, rd1_length]
theorem rd2_length (k x : W) (v : List W) : (rd2 k x v).length = v.length := by
  unfold rd2; split <;> rfl
theorem rds2_length : ∀ (k l v : List W), (rds2 k l v).length = v.length
  | [], _, v => by simp [rds2]
  | _ :: _, [], v => by simp [rds2]
  | k :: ks, x :: r, v => by rw [rds2, rds2_length ks r, rd2_length]
theorem block1_length (h : List W) (p : List UInt8) : (block1 h p).length = h.length := by
  unfold block1; rw [adds_length (by rw [rds1_length])]
theorem block2_length (K h : List W) (p : List UInt8) : (block2 K h p).length = h.length := by
  unfold block2; rw [adds_length (by rw [rds2_length])]
/-- The digest of a text by f. -/
def digest (f : List W → List UInt8 → List W) (st : List W) (t : List UInt8) : List UInt8 := out (stt f st (pad t))
theorem pad_length (t : List UInt8) : (pad t).length % 64 = 0 := by
  unfold pad; simp; omega
theorem dig1_len (t : List UInt8) : (digest block1 start1 t).length = 20 := by
  have hl : (stt block1 start1 (pad t)).length = 5 := blocks_length (f := block1) (fun h p hl => by rw [block1_length]; exact hl) _ _ _ rfl
  unfold digest
  match stt block1 start1 (pad t), hl with
  | [a, b, c, d, e], _ => rfl
end ShaM

/- A sum that is added up, in memory. No condition. -/
set_option linter.unusedVariables false
namespace Go.Proofs.YtcnpekohkbjnnaaGreatDoor
open Go Vc ShaM Go.Proofs

/-- A sum that is added up: t has been written. -/
structure HashAt (w : World) (b lo : Nat) (sl : Sl) (T : TypeId) (f : List ShaM.W → List UInt8 → List ShaM.W) (st : List ShaM.W) (t : List UInt8) : Prop where
  lob : lo ≤ b
  blk : ∃ r : ByteArray, r.data.toList = rest t ∧ w.heap[b]? = some (.cells #[.slice sl.a sl.len sl.cap, .string r, .int .u64 (t.length : Int)] T)
  len : t.length ≤ 72057594037927936
  ne : ∀ y, sl.a = some y → y.block ≠ b
  own : (sl = ⟨none, 0, 0⟩ ∧ t = []) ∨ (Vc.Own w lo T_uint32 sl (uv (stt f st t)) ∧ sl.a ≠ none)
theorem HashAt.keep {w w2 : World} {b lo : Nat} {sl : Sl} {T : TypeId} {f : List ShaM.W → List UInt8 → List ShaM.W} {st : List ShaM.W} {t : List UInt8} (h : HashAt w b lo sl T f st t) {X : Nat → Prop} (hf : Fr X w w2) (hb : ¬ X b) (hs : ∀ y, sl.a = some y → ¬ X y.block) : HashAt w2 b lo sl T f st t := by
  obtain ⟨r, h1, h2⟩ := h.blk
  refine ⟨h.lob, ⟨r, h1, hf.keep h2 hb⟩, h.len, h.ne, ?_⟩
  rcases h.own with h3 | ⟨h3, h4⟩
  · exact .inl h3
  · exact .inr ⟨h3.keep hf hs, h4⟩
theorem HashAt.zero {w w' : World} {T : TypeId} (f : List ShaM.W → List UInt8 → List ShaM.W) (st : List ShaM.W) (h : w' = w.alloc (.cells #[.slice none 0 0, .string ⟨#[]⟩, .int .u64 0] T)) : HashAt w' w.heap.size w.heap.size ⟨none, 0, 0⟩ T f st [] :=
  ⟨Nat.le_refl _, ⟨⟨#[]⟩, rfl, by rw [h]; exact alloc_new _ _⟩, Nat.zero_le _, (fun y hy => by cases hy), .inl ⟨rfl, rfl⟩⟩
theorem since_back {w w1 : World} {sl sl' : Sl} (f : Fr (fun _ => False) w w1) (h : Since w1 sl sl') : Since w sl sl' := fun y hy => by
  rcases h y hy with h | h
  · exact .inl h
  · exact .inr (by have := f.size; omega)
end Go.Proofs.YtcnpekohkbjnnaaGreatDoor

/- What write and sum of the package sha do, by block1. Conditions: the texts are short enough for a slice to hold (2 to the 56th). -/
set_option linter.unusedVariables false
namespace Go.Proofs.YtcnpekohkbjnnaaGreatDoor
open Go Vc ShaM Go.Proofs

theorem hw1_spec {w : World} {b lo : Nat} {sl : Sl} {T : TypeId} {t : List UInt8} (hh : HashAt w b lo sl T block1 start1 t) {a : Option Addr} (c : Nat) (hst : Reads w a (uv start1)) (x : ByteArray) (hx : t.length + x.size ≤ 72057594037927936) :
    Calls Tryz.prog F_sha_hash_write #[.pointer (some ⟨b, 0, none⟩), .string x, .slice a 5 c, .func (.func F_sha_block1) #[] #[]] w fun e w' =>
      e = .returned (.tuple #[]) ∧ ∃ sl', HashAt w' b lo sl' T block1 start1 (t ++ x.data.toList) ∧ sl'.a ≠ none ∧ Fr (fun k => k = b ∨ Vc.At sl k) w w' ∧ Since w sl sl' := by
  refine vc_sha_hash_write_1_ok (R := fun v w' => v = .tuple #[] ∧ ∃ sl', HashAt w' b lo sl' T block1 start1 (t ++ x.data.toList) ∧ sl'.a ≠ none ∧ Fr (fun k => k = b ∨ Vc.At sl k) w w' ∧ Since w sl sl') ?_ (fun v w' h => ⟨by rw [h.1], h.2⟩)
  obtain ⟨r, hr, hblk⟩ := hh.blk
  have hbw := lt_blk hblk
  have hlo := hh.lob
  have hxl : x.data.toList.length = x.size := by simp
  have hstl : (stt block1 start1 t).length = 5 := blocks_length (f := block1) (fun h p hl => by rw [block1_length]; exact hl) _ _ _ rfl
  have hrs : r.size = t.length % 64 := by rw [← rest_length, ← hr]; simp
  refine ⟨fun w6 => ∃ sl1, w6.heap[b]? = some (.cells #[.slice sl1.a sl1.len sl1.cap, .string r, .int .u64 (t.length : Int)] T) ∧ Vc.Own w6 lo T_uint32 sl1 (uv (stt block1 start1 t)) ∧ (∀ y, sl1.a = some y → y.block ≠ b) ∧ Fr (fun k => k = b ∨ Vc.At sl k) w w6 ∧ Since w sl sl1, ⟨sl, by rw [cell_blk hblk]; rfl, fun hnone => ?_, fun hsome => ?_⟩, ?_⟩
  · rcases hh.own with ⟨rfl, rfl⟩ | ⟨_, hne⟩
    · obtain ⟨w3, l4, hr3, o3, f3, s3⟩ := append_all' elU32 (Vc.Own.nil w lo T_uint32) c hst (one_uv _) (by simp only [List.length_nil, uv_len]; decide) (by simp only [List.length_nil, uv_len]; decide) (by omega) (m := 5) rfl
      rw [List.nil_append] at o3
      have f3' : Fr (fun _ => False) w w3 := f3.mono fun k hk ⟨y, hy, _⟩ => by cases hy
      have hb3 := f3'.keep hblk (by simp)
      refine ⟨w3, l4, hr3, wr_blk hb3 (by simp), ?_⟩
      intro w5 hw5
      have hb5 := set_blk hb3 0 (.slice l4.a l4.len l4.cap)
      rw [← hw5] at hb5
      have f5 : Fr (· = b) w3 w5 := hw5 ▸ Fr.set (· = b) _ (a := ⟨b, 0, none⟩) _ rfl
      have hne4 : ∀ y, l4.a = some y → y.block ≠ b := fun y hy => by
        rcases s3 y hy with ⟨z, hz, _⟩ | hn
        · cases hz
        · omega
      exact ⟨l4, hb5, o3.keep f5 (fun y hy => hne4 y hy), hne4, (f3'.mono (by simp)).trans f5 (fun k hk h => .inl h), s3⟩
    · exfalso
      cases hsa : sl.a with
      | none => exact hne hsa
      | some y => rw [hsa] at hnone; cases hnone
  · rcases hh.own with ⟨rfl, rfl⟩ | ⟨ho, hne⟩
    · cases hsome
    · exact ⟨sl, hblk, ho, hh.ne, .refl _ _, .refl _ _⟩
  rintro w6 ⟨sl1, hb6, o6, hne1, f6, s6⟩
  refine ⟨_, by rw [cell_blk hb6]; rfl, wr_blk hb6 (by simp), ?_⟩
  intro w8 hw8
  have en : IntKind.u64.wrap ((t.length : Int) + IntKind.u64.wrap (x.size : Int)) = (((t ++ x.data.toList).length : Nat) : Int) := by
    rw [List.length_append, hxl, wrap_u64 (x := (x.size : Int)) (by omega) (by omega), wrap_u64 (by omega) (by omega)]; omega
  rw [en] at hw8
  have hb8 := set_blk hb6 2 (.int .u64 (((t ++ x.data.toList).length : Nat) : Int))
  rw [← hw8] at hb8
  have f8 : Fr (· = b) w6 w8 := hw8 ▸ Fr.set (· = b) _ (a := ⟨b, 2, none⟩) _ rfl
  refine ⟨r, by rw [cell_blk hb8]; rfl, by omega, ?_⟩
  have hX : ∀ k, k < w.heap.size → Vc.At sl1 k → (k = b ∨ Vc.At sl k) := fun k hk ⟨y, hy, e⟩ => by
    rcases s6 y hy with ⟨z, hz, hzb⟩ | hn
    · exact .inr ⟨z, hz, by omega⟩
    · omega
  obtain ⟨TT, hTT⟩ : ∃ TT, rest t ++ x.data.toList = TT := ⟨_, rfl⟩
  have hTl : TT.length = t.length % 64 + x.size := by rw [← hTT, List.length_append, rest_length, hxl]
  obtain ⟨q1, q2⟩ := step_all block1 start1 t x.data.toList
  rw [hTT] at q1 q2
  refine ⟨fun s w' => ∃ q : Nat, 64 * q ≤ TT.length ∧ s.data.toList = TT.drop (64 * q) ∧ w'.heap[b]? = some (.cells #[.slice sl1.a sl1.len sl1.cap, .string r, .int .u64 (((t ++ x.data.toList).length : Nat) : Int)] T) ∧ Vc.Own w' lo T_uint32 sl1 (uv (blocks block1 q (stt block1 start1 t) TT)) ∧ Fr (Vc.At sl1) w8 w',
    fun s _ => s.size, ⟨0, by omega, by rw [← hTT, ← hr]; simp, hb8, o6.keep f8 (fun y hy => hne1 y hy), .refl _ _⟩, ?_⟩
  rintro s w13 ⟨q, hq, hs, hb13, o13, f13⟩
  have hsz : s.size = TT.length - 64 * q := by
    have : s.data.toList.length = s.size := by simp
    rw [← this, hs, List.length_drop]
  refine ⟨fun hge => ?_, fun hlt => ?_⟩
  · have hge := of_decide_eq_true hge
    intro w14 d14
    refine ⟨fun w => w = w14, rfl, sl1, fun w hw => by rw [hw, d14.cell, cell_blk hb13]; rfl, ⟨by decide, by omega⟩, ?_⟩
    have hbl := blocks_length (f := block1) (fun h p hl => by rw [block1_length]; exact hl) q (stt block1 start1 t) TT hstl
    have hex : (s.extract 0 (Int.toNat 64)).data.toList = (TT.drop (64 * q)).take 64 := by
      rw [ext_toList, hs]; rfl
    refine (block1_spec (o13.drew d14) hbl (s.extract 0 (Int.toNat 64)) (by rw [ByteArray.size_extract]; show min 64 s.size - 0 = 64; omega)).mono ?_
    rintro e w19 ⟨rfl, o19, f19⟩
    rw [hex, ← blocks_step block1] at o19
    have hb19 : w19.heap[b]? = _ := f19.keep ((Fr.drew (fun _ => False) d14).keep hb13 (by simp)) (fun ⟨y, hy, e⟩ => hne1 y hy e.symm)
    refine ⟨rfl, ⟨by decide, by omega⟩, ⟨q + 1, by omega, ?_, hb19, o19, (f13.trans' (.drew _ d14)).trans' f19⟩, ?_⟩
    · rw [ext_toList, hs, List.take_of_length_le (by rw [List.length_drop, List.length_drop]; show _ ≤ s.size - 64; omega), List.drop_drop]
      congr 1
    · dsimp only
      rw [ByteArray.size_extract]
      show min s.size s.size - 64 < s.size
      omega
  · have hlt := of_decide_eq_false hlt
    have hq2 : q = TT.length / 64 := by omega
    subst hq2
    rw [q1] at o13
    rw [q2] at hs
    refine ⟨wr_blk hb13 (by simp), ?_⟩
    intro w20 hw20
    have hb20 := set_blk hb13 1 (.string s)
    rw [← hw20] at hb20
    have f20 : Fr (· = b) w13 w20 := hw20 ▸ Fr.set (· = b) _ (a := ⟨b, 1, none⟩) _ rfl
    have o20 := o13.keep f20 (fun y hy => hne1 y hy)
    have hstl2 : (stt block1 start1 (t ++ x.data.toList)).length = 5 := blocks_length (f := block1) (fun h p hl => by rw [block1_length]; exact hl) _ _ _ rfl
    refine ⟨rfl, sl1, ⟨hlo, ⟨s, hs, hb20⟩, by rw [List.length_append, hxl]; omega, hne1, .inr ⟨o20, fun hn => ?_⟩⟩, fun hn => ?_, ((f6.trans f8 (fun k hk h => .inl h)).trans f13 hX).trans f20 (fun k hk h => .inl h), s6⟩
    all_goals
      obtain ⟨y, hy, _⟩ := own_get o20 (i := 0) (by omega)
      rw [hn] at hy; cases hy
end Go.Proofs.YtcnpekohkbjnnaaGreatDoor

/- What is put behind a text, and a word as bytes, in plain. No condition. -/
set_option linter.unusedVariables false
namespace Go.Proofs.YtcnpekohkbjnnaaGreatDoor
open Go Vc ShaM Go.Proofs

/-- What is put behind the text, block1. -/
def tail1 (n : Nat) : List UInt8 := 0x80 :: List.replicate ((119 - n % 64) % 64) 0 ++ (List.range 8).map fun i => UInt8.ofNat (n * 8 / 2 ^ (56 - 8 * i))
theorem pad1_eq (t : List UInt8) : pad t = t ++ tail1 t.length := by simp [pad, tail1]
theorem outw1_eq (x : ShaM.W) : (Array.mk [Value.int .u8 (IntKind.u8.wrap (Int.fdiv (x.toNat : Int) (2 ^ min (Int.toNat 24) 32))), .int .u8 (IntKind.u8.wrap (Int.fdiv (x.toNat : Int) (2 ^ min (Int.toNat 16) 32))), .int .u8 (IntKind.u8.wrap (Int.fdiv (x.toNat : Int) (2 ^ min (Int.toNat 8) 32))), .int .u8 (IntKind.u8.wrap (x.toNat : Int))] : Array Value) = (byteV (outw x)).toArray := by
  have h : ∀ (n k : Nat), IntKind.u8.wrap (Int.fdiv (n : Int) ((k + 1 : Nat) : Int)) = (((UInt8.ofNat (n / (k + 1))).toNat : Nat) : Int) := fun n k => by
    rw [Int.fdiv_eq_ediv_of_nonneg _ (Int.natCast_nonneg _), ← Int.natCast_ediv, wrap_u8_mod, UInt8.toNat_ofNat']
    omega
  have h0 : IntKind.u8.wrap (x.toNat : Int) = (((UInt8.ofNat x.toNat).toNat : Nat) : Int) := by rw [wrap_u8_mod, UInt8.toNat_ofNat']; omega
  have p24 : (2 : Int) ^ min (Int.toNat 24) 32 = ((16777215 + 1 : Nat) : Int) := rfl
  have p16 : (2 : Int) ^ min (Int.toNat 16) 32 = ((65535 + 1 : Nat) : Int) := rfl
  have p8 : (2 : Int) ^ min (Int.toNat 8) 32 = ((255 + 1 : Nat) : Int) := rfl
  rw [p24, p16, p8, h, h, h, h0]
  rfl
end Go.Proofs.YtcnpekohkbjnnaaGreatDoor

/- What sum of the package sha does, by block1. Conditions: the texts are short enough for a slice to hold (2 to the 56th). -/
set_option linter.unusedVariables false
namespace Go.Proofs.YtcnpekohkbjnnaaGreatDoor
open Go Vc ShaM Go.Proofs

theorem hs1_spec {w : World} {b lo : Nat} {sl : Sl} {T : TypeId} {t : List UInt8} (hh : HashAt w b lo sl T block1 start1 t) {a : Option Addr} (c : Nat) (hst : Reads w a (uv start1)) (hx : t.length + 200 ≤ 72057594037927936) :
    Calls Tryz.prog F_sha_hash_sum #[.pointer (some ⟨b, 0, none⟩), .slice a 5 c, .func (.func F_sha_block1) #[] #[]] w fun e w' => e = .returned (.string ⟨(digest block1 start1 t).toArray⟩) ∧ Fr (fun _ => False) w w' := by
  refine vc_sha_hash_sum_1_ok (R := fun v w' => v = .string ⟨(digest block1 start1 t).toArray⟩ ∧ Fr (fun _ => False) w w') ?_ (fun v w' h => ⟨by rw [h.1], h.2⟩)
  obtain ⟨r, hr, hblk⟩ := hh.blk
  have hbw := lt_blk hblk
  have hrs : r.size = t.length % 64 := by rw [← rest_length, ← hr]; simp
  -- the copy's words
  have copy_ : ∀ w2, Fr (fun _ => False) w w2 → ∃ w3 l3, (Builtin.append_ #[T_S_uint32, T_S_uint32] T_S_uint32 #[.slice none 0 0, .slice sl.a sl.len sl.cap]).run Tryz.prog w2 = .ok (.slice l3.a l3.len l3.cap) w3 ∧ Fr (fun _ => False) w2 w3 ∧
      (∀ y, l3.a = some y → w2.heap.size ≤ y.block ∧ y.block < w3.heap.size) ∧ ((sl = ⟨none, 0, 0⟩ ∧ t = [] ∧ l3 = ⟨none, 0, 0⟩) ∨ (Vc.Own w3 w.heap.size T_uint32 l3 (uv (stt block1 start1 t)) ∧ sl.a ≠ none)) := fun w2 f2 => by
    have hsz := f2.size
    rcases hh.own with ⟨h1, h2⟩ | ⟨ho, hne⟩
    · obtain ⟨w3, l3, hr3, o3, f3, s3⟩ := append_all' (w := w2) elU32 (Vc.Own.nil w2 w.heap.size T_uint32) sl.cap (Reads.nil w2 sl.a) (by simp) (by decide) (by decide) hsz (m := sl.len) (by rw [h1]; rfl)
      have f3' : Fr (fun _ => False) w2 w3 := f3.mono fun k hk ⟨y, hy, _⟩ => by cases hy
      have hl3 : l3.a = none := by
        cases h : l3.a with
        | none => rfl
        | some y =>
          exfalso
          subst h1
          have hr4 := append_all' (w := w2) elU32 (Vc.Own.nil w2 w.heap.size T_uint32) 0 (Reads.nil w2 none) (by simp) (by decide) (by decide) hsz (m := 0) rfl
          have : (Builtin.append_ #[T_S_uint32, T_S_uint32] T_S_uint32 #[.slice none 0 0, .slice none 0 0]).run Tryz.prog w2 = .ok (.slice none 0 0) w2 := by
            obtain ⟨i, hi, hi2⟩ := Option.map_eq_some_iff.1 elU32.info
            simp [Builtin.append_, run_underlying elU32.sl, Go.sizeOf, typeInfo, hi, Builtin.lenOf, Builtin.firstCells]
          rw [this] at hr3
          simp only [Result.ok.injEq, Value.slice.injEq] at hr3
          rw [← hr3.1.1] at h; cases h
      have hl3' : l3 = ⟨none, 0, 0⟩ := by
        rcases o3.2 with ⟨_, q1, q2⟩ | ⟨g, cur, hg, _⟩
        · cases l3; simp_all
        · rw [hl3] at hg; cases hg
      exact ⟨w3, l3, hr3, f3', (fun y hy => by rw [hl3] at hy; cases hy), .inl ⟨h1, h2, hl3'⟩⟩
    · obtain ⟨w3, l3, hr3, o3, f3, s3⟩ := append_all' (w := w2) elU32 (Vc.Own.nil w2 w.heap.size T_uint32) sl.cap ((ho.keep f2 (by simp)).reads) (one_uv _) (by simp only [List.length_nil, uv_len, stt, blocks_length (f := block1) (fun h p hl => by rw [block1_length]; exact hl) _ _ _ (rfl : start1.length = 5)]; decide)
        (by simp only [List.length_nil, uv_len, stt, blocks_length (f := block1) (fun h p hl => by rw [block1_length]; exact hl) _ _ _ (rfl : start1.length = 5)]; decide) hsz (m := sl.len) ho.len.symm
      rw [List.nil_append] at o3
      have f3' : Fr (fun _ => False) w2 w3 := f3.mono fun k hk ⟨y, hy, _⟩ => by cases hy
      refine ⟨w3, l3, hr3, f3', fun y hy => ?_, .inr ⟨o3, hne⟩⟩
      rcases s3 y hy with ⟨z, hz, _⟩ | hn
      · cases hz
      · exact ⟨hn, (o3.blk hy).2⟩
  refine ⟨fun q w' => ∃ eb slE, q = ⟨eb, 0, none⟩ ∧ w.heap.size ≤ eb ∧ HashAt w' eb w.heap.size slE T_sha_hash block1 start1 t ∧ Fr (fun _ => False) w w', ?_, ?_⟩
  · intro w2 d2
    have f2 : Fr (fun _ => False) w w2 := .drew _ d2
    refine ⟨Fr (fun _ => False) w, f2, sl, fun w5 h5 => by rw [cell_blk (h5.keep hblk (by simp))]; rfl, r, fun w5 h5 => by rw [cell_blk (h5.keep hblk (by simp))]; rfl, _, fun w5 h5 => by rw [cell_blk (h5.keep hblk (by simp))]; rfl, ?_, ?_⟩
    · obtain ⟨w10, l11, hr10, f10, hb10, hc⟩ := copy_ w2 f2
      refine ⟨w10, l11, hr10, f2.trans' f10, ?_⟩
      intro w12 hw12
      have f12 : Fr (fun _ => False) w10 w12 := hw12 ▸ Fr.alloc _ _ _
      have hz12 := alloc_new w10 (.cells #[.slice none 0 0, .string ⟨#[]⟩, .int .u64 0] T_sha_hash)
      rw [← hw12] at hz12
      have h12 := (f2.trans' f10).trans' f12
      have hs := run_storeVar_row (P := Tryz.prog) w12 w10.heap.size T_sha_hash T_sha_hash _ #[.slice l11.a l11.len l11.cap, .string r, .int .u64 (t.length : Int)] hz12 (by kernel_rfl) rfl (by simp [Value.oneCell'])
      refine ⟨h12, _, hs, w10.heap.size, l11, rfl, (f2.trans' f10).size, ?_, ?_⟩
      · have hrow := setRow_heap w12 w10.heap.size _ #[.slice l11.a l11.len l11.cap, .string r, .int .u64 (t.length : Int)] T_sha_hash (0, 0) hz12
        have frow : Fr (· = w10.heap.size) w12 (w12.setRow w10.heap.size #[.slice l11.a l11.len l11.cap, .string r, .int .u64 (t.length : Int)]) := setRow_fr _ _ _ _ rfl
        refine ⟨(f2.trans' f10).size, ⟨r, hr, hrow⟩, hh.len, fun y hy => by have := (hb10 y hy).2; omega, ?_⟩
        rcases hc with ⟨_, h2, h3⟩ | ⟨h1, h2⟩
        · exact .inl ⟨h3, h2⟩
        · refine .inr ⟨(h1.keep f12 (by simp)).keep frow (fun y hy => by have := (hb10 y hy).2; omega), fun hn => ?_⟩
          obtain ⟨y, hy, _⟩ := own_get h1 (i := 0) (by rw [stt, blocks_length (f := block1) (fun h p hl => by rw [block1_length]; exact hl) _ _ _ (rfl : start1.length = 5)]; decide)
          rw [hn] at hy; cases hy
      · exact h12.trans (setRow_fr (· = w10.heap.size) _ _ _ rfl) (fun q hq h => by have := (f2.trans' f10).size; omega)
    · intro w14 hw14
      have f14 : Fr (fun _ => False) w2 w14 := hw14 ▸ Fr.alloc _ _ _
      have hz14 := alloc_new w2 (.cells #[.slice none 0 0, .string ⟨#[]⟩, .int .u64 0] T_sha_hash)
      rw [← hw14] at hz14
      have h14 := f2.trans' f14
      obtain ⟨w15, l16, hr15, f15, hb15, hc⟩ := copy_ w14 h14
      have hz15 := f15.keep hz14 (by simp)
      have hs := run_storeVar_row (P := Tryz.prog) w15 w2.heap.size T_sha_hash T_sha_hash _ #[.slice l16.a l16.len l16.cap, .string r, .int .u64 (t.length : Int)] hz15 (by kernel_rfl) rfl (by simp [Value.oneCell'])
      have h15 := h14.trans' f15
      have hlt14 := lt_blk hz14
      refine ⟨h14, w15, l16, hr15, h15, _, hs, w2.heap.size, l16, rfl, f2.size, ?_, ?_⟩
      · have hrow := setRow_heap w15 w2.heap.size _ #[.slice l16.a l16.len l16.cap, .string r, .int .u64 (t.length : Int)] T_sha_hash (0, 0) hz15
        have frow : Fr (· = w2.heap.size) w15 (w15.setRow w2.heap.size #[.slice l16.a l16.len l16.cap, .string r, .int .u64 (t.length : Int)]) := setRow_fr _ _ _ _ rfl
        refine ⟨f2.size, ⟨r, hr, hrow⟩, hh.len, fun y hy => by have := (hb15 y hy).1; omega, ?_⟩
        rcases hc with ⟨_, h2, h3⟩ | ⟨h1, h2⟩
        · exact .inl ⟨h3, h2⟩
        · refine .inr ⟨h1.keep frow (fun y hy => by have := (hb15 y hy).1; omega), fun hn => ?_⟩
          obtain ⟨y, hy, _⟩ := own_get h1 (i := 0) (by rw [stt, blocks_length (f := block1) (fun h p hl => by rw [block1_length]; exact hl) _ _ _ (rfl : start1.length = 5)]; decide)
          rw [hn] at hy; cases hy
      · exact h15.trans (setRow_fr (· = w2.heap.size) _ _ _ rfl) (fun q hq h => by have := f2.size; omega)
  rintro q w19 ⟨eb, slE, rfl, heb, hE, f19⟩
  have hb19 := f19.keep hblk (by simp)
  refine ⟨fun w' => ∃ slE, HashAt w' eb w.heap.size slE T_sha_hash block1 start1 t ∧ Fr (fun _ => False) w w', ⟨sl, by rw [cell_blk hb19]; rfl, fun hnone => ?_, fun _ => ⟨slE, hE, f19⟩⟩, ?_⟩
  · rcases hh.own with ⟨h1, h2⟩ | ⟨_, hne⟩
    · obtain ⟨r2, hr2, hblk2⟩ := hE.blk
      refine ⟨wr_blk hblk2 (by simp), ?_⟩
      intro w22 hw22
      have hb22 := set_blk hblk2 0 (.slice none 0 0)
      rw [← hw22] at hb22
      have f22 : Fr (· = eb) w19 w22 := hw22 ▸ Fr.set (· = eb) _ (a := ⟨eb, 0, none⟩) _ rfl
      exact ⟨⟨none, 0, 0⟩, ⟨heb, ⟨r2, hr2, hb22⟩, hh.len, (fun y hy => by cases hy), .inl ⟨rfl, h2⟩⟩, f19.trans f22 (fun q hq h => by omega)⟩
    · exfalso
      cases hsa : sl.a with
      | none => exact hne hsa
      | some y => rw [hsa] at hnone; cases hnone
  clear hE f19 hb19 slE
  rintro w23 ⟨slE, hE, f23⟩
  refine ⟨fun s w' => w' = w23 ∧ ∃ j : Nat, j ≤ (119 - t.length % 64) % 64 ∧ s.data.toList = 0x80 :: List.replicate j 0, fun s _ => 200 - s.size, ⟨rfl, 0, Nat.zero_le _, rfl⟩, ?_⟩
  rintro s26 w27 ⟨rfl, j, hj, hs26⟩
  have hb27 := f23.keep hblk (by simp)
  have hs26l : s26.size = j + 1 := by
    have : s26.data.toList.length = s26.size := by simp
    rw [← this, hs26]; simp
  have htl := hh.len
  have e0 : Int.tmod (IntKind.i64.wrap ((r.size : Int) + (s26.size : Int))) 64 = ((((t.length % 64) + j + 1) % 64 : Nat) : Int) := by
    rw [wrap_i64 (by omega) (by omega), Int.tmod_eq_emod_of_nonneg (by omega)]; omega
  have e00 : ((ByteArray.mk (Array.mk [0])).size : Nat) = 1 := rfl
  refine ⟨r, by rw [cell_blk hb27]; rfl, by decide, ?_⟩
  rw [e0]
  refine ⟨fun hne => ?_, fun heq => ?_⟩
  · have hne : ¬ ((t.length % 64) + j + 1) % 64 = 56 := fun h => by rw [h] at hne; exact absurd hne (by decide)
    have hsz : (s26 ++ ByteArray.mk (Array.mk [0])).size = j + 2 := by rw [ByteArray.size_append, hs26l]; rfl
    refine ⟨by omega, ⟨rfl, j + 1, by omega, ?_⟩, ?_⟩
    · rw [ByteArray.data_append, Array.toList_append, hs26, List.replicate_succ']; rfl
    · dsimp only; omega
  have heq : ((t.length % 64) + j + 1) % 64 = 56 := by
    by_cases h : ((t.length % 64) + j + 1) % 64 = 56
    · exact h
    · exfalso
      have : ((((t.length % 64 + j + 1) % 64 : Nat) : Int) != 56) = true := by simp; omega
      rw [this] at heq; cases heq
  have hjz : j = (119 - t.length % 64) % 64 := by omega
  obtain ⟨bs, hbs⟩ : ∃ bs : List UInt8, (List.range 8).map (fun i => UInt8.ofNat (t.length * 8 / 2 ^ (56 - 8 * i))) = bs := ⟨_, rfl⟩
  have hbl : bs.length = 8 := by rw [← hbs]; simp
  refine ⟨fun l i w' => ∃ m : Nat, m ≤ 8 ∧ i = 56 - 8 * (m : Int) ∧ Vc.Own w' w27.heap.size T_uint8 l (byteV (bs.take m)) ∧ Fr (fun _ => False) w27 w', fun _ i _ => (i + 8).toNat, ⟨0, by decide, rfl, Vc.Own.nil _ _ _, .refl _ _⟩, ?_⟩
  rintro l31 i w33 ⟨m, hm, rfl, o33, f33⟩
  refine ⟨fun hge => ?_, fun hlt => ?_⟩
  · have hge := of_decide_eq_true hge
    have hb33 := f33.keep hb27 (by simp)
    refine ⟨_, by rw [cell_blk hb33]; rfl, hge, ?_⟩
    have hm8 : m < 8 := by omega
    have hg : bs[m]'(by omega) = UInt8.ofNat (t.length * 8 / 2 ^ (56 - 8 * m)) := by
      have h1 : bs[m]? = some (UInt8.ofNat (t.length * 8 / 2 ^ (56 - 8 * m))) := by
        rw [← hbs, List.getElem?_map, List.getElem?_range hm8]; rfl
      exact (List.getElem?_eq_some_iff.1 h1).2
    have htk : bs.take (m + 1) = bs.take m ++ [UInt8.ofNat (t.length * 8 / 2 ^ (56 - 8 * m))] := by rw [List.take_succ_eq_append_getElem (by omega), hg]
    have ev : IntKind.u8.wrap (Int.fdiv (IntKind.u64.wrap ((t.length : Int) * 8)) (2 ^ min (Int.toNat (56 - 8 * (m : Int))) 64)) = (((UInt8.ofNat (t.length * 8 / 2 ^ (56 - 8 * m))).toNat : Nat) : Int) := by
      have h1 : min (Int.toNat (56 - 8 * (m : Int))) 64 = 56 - 8 * m := by omega
      have hp : (2 : Int) ^ (56 - 8 * m) = ((2 ^ (56 - 8 * m) : Nat) : Int) := by push_cast; rfl
      have h2 : IntKind.u64.wrap ((t.length : Int) * 8) = ((t.length * 8 : Nat) : Int) := by rw [wrap_u64 (by omega) (by omega)]; omega
      rw [h1, hp, h2, Int.fdiv_eq_ediv_of_nonneg _ (Int.natCast_nonneg _), ← Int.natCast_ediv, wrap_u8_mod, UInt8.toNat_ofNat']
      omega
    rw [ev]
    intro w35 hw35
    have hl : (byteV (bs.take m)).length = m := by rw [List.length_map, List.length_take, hbl]; omega
    obtain ⟨w36, l37, hr36, o36, f36⟩ := append_one elByte o33 (v := .int .u8 (((UInt8.ofNat (t.length * 8 / 2 ^ (56 - 8 * m))).toNat : Nat) : Int)) rfl (by rw [hl]; unfold maxLen; omega) (by rw [hl]; omega) f33.size hw35
    have e8 : IntKind.i64.wrap (56 - 8 * (m : Int) - 8) = 56 - 8 * ((m + 1 : Nat) : Int) := by rw [wrap_i64 (by omega) (by omega)]; omega
    rw [e8]
    refine ⟨w36, l37, hr36, ⟨m + 1, by omega, rfl, ?_, f33.trans f36 (fun q hq ⟨y, hy, e⟩ => by have := (o33.blk hy).1; omega)⟩, by dsimp only; omega⟩
    rw [htk, byteV, List.map_append]; exact o36
  have hlt := of_decide_eq_false hlt
  have : m = 8 := by omega
  subst this
  rw [List.take_of_length_le (by omega)] at o33
  have hlb : bs.length = l31.len := by rw [o33.len, List.length_map]
  refine ⟨w33, _, bytes_str elByte.sl (by kernel_rfl) (by kernel_rfl) _ o33.reads hlb, ?_⟩
  have hbsz : (ByteArray.mk bs.toArray).size = 8 := by show bs.toArray.size = 8; rw [List.size_toArray, hbl]
  refine ⟨by omega, ?_⟩
  have hE33 := hE.keep f33 (by simp) (by simp)
  have hX : (s26 ++ ByteArray.mk bs.toArray).data.toList = tail1 t.length := by
    rw [ByteArray.data_append, Array.toList_append, hs26, hjz, tail1, hbs]
  have hXs : (s26 ++ ByteArray.mk bs.toArray).size ≤ 80 := by rw [ByteArray.size_append]; omega
  refine (hw1_spec hE33 c ((hst.keep f23 (by simp)).keep f33 (by simp)) (s26 ++ ByteArray.mk bs.toArray) (by omega)).mono ?_
  rintro e w41 ⟨rfl, sl', hE41, hne41, f41, s41⟩
  rw [hX, ← pad1_eq] at hE41
  have hebl : w.heap.size ≤ eb := heb
  have fE : Fr (fun _ => False) w w41 := (f23.trans' f33).trans f41 (fun q hq h => by
    rcases h with h | ⟨y, hy, h⟩
    · omega
    · rcases hE33.own with ⟨h1, _⟩ | ⟨h1, _⟩
      · rw [h1] at hy; cases hy
      · have := (h1.blk hy).1; omega)
  obtain ⟨r41, hr41, hblk41⟩ := hE41.blk
  have o41 : Vc.Own w41 w.heap.size T_uint32 sl' (uv (stt block1 start1 (pad t))) := by
    rcases hE41.own with ⟨h1, h2⟩ | ⟨h1, _⟩
    · rw [h1] at hne41; exact absurd rfl hne41
    · exact h1
  have hWl : (stt block1 start1 (pad t)).length = 5 := blocks_length (f := block1) (fun h p hl => by rw [block1_length]; exact hl) _ _ _ rfl
  refine ⟨rfl, sl', by rw [cell_blk hblk41]; rfl, ?_⟩
  have hsl' : sl'.len = 5 := by rw [o41.len, uv_len, hWl]
  have hdg : digest block1 start1 t = out (stt block1 start1 (pad t)) := rfl
  rw [hdg]
  generalize stt block1 start1 (pad t) = WS at o41 hWl
  refine ⟨fun l i w' => ∃ m : Nat, m ≤ 5 ∧ i = (m : Int) ∧ Vc.Own w' w41.heap.size T_uint8 l (byteV (out (WS.take m))) ∧ Fr (fun _ => False) w41 w', fun _ i _ => ((5 : Int) - i).toNat, ⟨0, by decide, rfl, Vc.Own.nil _ _ _, .refl _ _⟩, ?_⟩
  rintro l45 i w47 ⟨m, hm, rfl, o47, f47⟩
  have houtl : ∀ l : List ShaM.W, (out l).length = 4 * l.length := fun l => by
    induction l with
    | nil => rfl
    | cons x l ih => 
      show (outw x ++ out l).length = _
      rw [List.length_append, ih, List.length_cons]; simp only [outw, List.length_cons, List.length_nil]; omega
  refine ⟨fun hlt => ?_, fun hge => ?_⟩
  · have hlt := of_decide_eq_true hlt
    have hml : m < WS.length := by omega
    obtain ⟨y, hy, hc⟩ := own_get (o41.keep f47 (by simp)) (i := m) hml
    have e1 : IntKind.i64.wrap ((m : Int) + 1) = ((m + 1 : Nat) : Int) := by rw [wrap_i64 (by omega) (by omega)]; omega
    refine ⟨⟨by omega, by omega⟩, y, hy, _, by rw [Int.toNat_natCast, Nat.mul_one]; exact hc, by decide, by decide, by decide, ?_⟩
    rw [outw1_eq, e1]
    have hg : WS.getD m 0 = WS[m] := by rw [List.getD_eq_getElem?_getD, List.getElem?_eq_getElem hml]; rfl
    rw [hg]
    have htk : out (WS.take (m + 1)) = out (WS.take m) ++ outw WS[m] := by
      rw [List.take_succ_eq_append_getElem hml, out, List.flatMap_append]; simp [out]
    generalize WS[m] = x at htk
    intro w50 hw50
    have f50 : Fr (fun _ => False) w47 w50 := hw50 ▸ Fr.alloc _ _ _
    have hz50 := alloc_new w47 (.cells (byteV (outw x)).toArray T_uint8)
    rw [← hw50] at hz50
    have hrd : Reads w50 (some ⟨w47.heap.size, 0, none⟩) (byteV (outw x)) := fun i v hv => by
      refine ⟨_, rfl, ?_⟩
      rw [add_lit, cell_blk hz50, Nat.zero_add, ← hv]; simp
    have hl : (byteV (out (WS.take m))).length = 4 * m := by rw [List.length_map, houtl, List.length_take]; omega
    obtain ⟨w51, l52, hr51, o51, f51⟩ := append_all elByte (o47.keep f50 (by simp)) 4 hrd (byteV_one _) (by rw [hl]; simp [outw, maxLen]; omega) (by rw [hl]; simp [outw]; omega) (f47.trans' f50).size (m := 4) (by simp [outw])
    refine ⟨w51, l52, hr51, ⟨m + 1, by omega, rfl, ?_, (f47.trans' f50).trans f51 (fun q hq ⟨y, hy, e⟩ => by have := (o47.blk hy).1; omega)⟩, by dsimp only; omega⟩
    rw [htk, byteV, List.map_append]; exact o51
  · have hge := of_decide_eq_false hge
    have : m = 5 := by omega
    subst this
    rw [List.take_of_length_le (by omega)] at o47
    exact ⟨w47, _, bytes_str elByte.sl (by kernel_rfl) (by kernel_rfl) _ o47.reads (by rw [o47.len, List.length_map]), rfl, fE.trans' f47⟩
end Go.Proofs.YtcnpekohkbjnnaaGreatDoor

/- Hash1 and Sum1 of the package sha. Conditions: the texts are short enough for a slice to hold (2 to the 56th). -/
set_option linter.unusedVariables false
namespace Go.Proofs.YtcnpekohkbjnnaaGreatDoor
open Go Vc ShaM Go.Proofs

theorem start1_spec (w : World) : Calls Tryz.prog F_sha_start1 #[] w fun e w' => e = .returned (.slice (some ⟨w.heap.size, 0, none⟩) 5 5) ∧ Vc.Own w' w.heap.size T_uint32 ⟨some ⟨w.heap.size, 0, none⟩, 5, 5⟩ (uv start1) ∧ Fr (fun _ => False) w w' := by
  refine vc_sha_start1_ok (R := fun v w' => v = .slice (some ⟨w.heap.size, 0, none⟩) 5 5 ∧ Vc.Own w' w.heap.size T_uint32 ⟨some ⟨w.heap.size, 0, none⟩, 5, 5⟩ (uv start1) ∧ Fr (fun _ => False) w w') ?_ (fun v w' h => ⟨by rw [h.1], h.2⟩)
  intro w1 hw1
  exact ⟨rfl, ⟨rfl, .inr ⟨w.heap.size, _, rfl, Nat.le_refl _, hw1 ▸ alloc_new _ _, Nat.le_refl _, by simp [maxLen], rfl, rfl⟩⟩, hw1 ▸ Fr.alloc _ _ _⟩
section
variable {w : World} {b lo : Nat} {sl : Sl} {T : TypeId} {t : List UInt8}
theorem h1write_spec (hh : HashAt w b lo sl T block1 start1 t) (x : ByteArray) (hx : t.length + x.size ≤ 72057594037927936) :
    Calls Tryz.prog F_sha_Hash1_Write #[.pointer (some ⟨b, 0, none⟩), .string x] w fun e w' =>
      e = .returned (.tuple #[]) ∧ ∃ sl', HashAt w' b lo sl' T block1 start1 (t ++ x.data.toList) ∧ Fr (fun k => k = b ∨ Vc.At sl k) w w' ∧ Since w sl sl' := by
  refine vc_sha_Hash1_Write_ok (R := fun v w' => v = .tuple #[] ∧ ∃ sl', HashAt w' b lo sl' T block1 start1 (t ++ x.data.toList) ∧ Fr (fun k => k = b ∨ Vc.At sl k) w w' ∧ Since w sl sl') ?_ (fun v w' h => ⟨by rw [h.1], h.2⟩)
  intro w1 d1
  refine ⟨fun _ => True, trivial, (start1_spec w1).mono ?_⟩
  rintro e w4 ⟨rfl, o4, f4⟩
  have f14 : Fr (fun _ => False) w w4 := (Fr.drew _ d1).trans' f4
  refine ⟨⟨_, 5, 5⟩, rfl, trivial, ?_⟩
  refine (hw1_spec (hh.keep f14 (by simp) (by simp)) 5 o4.reads x hx).mono ?_
  rintro e w7 ⟨rfl, sl', h7, _, f7, s7⟩
  exact ⟨rfl, rfl, sl', h7, (f14.mono (by simp)).trans f7 (fun k _ h => h), since_back f14 s7⟩
theorem h1sum_spec (hh : HashAt w b lo sl T block1 start1 t) (hx : t.length + 200 ≤ 72057594037927936) :
    Calls Tryz.prog F_sha_Hash1_Sum #[.pointer (some ⟨b, 0, none⟩)] w fun e w' => e = .returned (.string ⟨(digest block1 start1 t).toArray⟩) ∧ Fr (fun _ => False) w w' := by
  refine vc_sha_Hash1_Sum_ok (R := fun v w' => v = .string ⟨(digest block1 start1 t).toArray⟩ ∧ Fr (fun _ => False) w w') ?_ (fun v w' h => ⟨by rw [h.1], h.2⟩)
  intro w1 d1
  refine ⟨fun _ => True, trivial, (start1_spec w1).mono ?_⟩
  rintro e w4 ⟨rfl, o4, f4⟩
  have f14 : Fr (fun _ => False) w w4 := (Fr.drew _ d1).trans' f4
  refine ⟨⟨_, 5, 5⟩, rfl, trivial, ?_⟩
  refine (hs1_spec (hh.keep f14 (by simp) (by simp)) 5 o4.reads hx).mono ?_
  rintro e w7 ⟨rfl, f7⟩
  exact ⟨_, rfl, trivial, rfl, f14.trans' f7⟩
end
theorem sum1_spec (x : ByteArray) (hx : x.size + 200 ≤ 72057594037927936) (w : World) : Calls Tryz.prog F_sha_Sum1 #[.string x] w fun e w' => e = .returned (.string ⟨(digest block1 start1 x.data.toList).toArray⟩) ∧ Fr (fun _ => False) w w' := by
  refine vc_sha_Sum1_ok (R := fun v w' => v = .string ⟨(digest block1 start1 x.data.toList).toArray⟩ ∧ Fr (fun _ => False) w w') ?_ (fun v w' h => ⟨by rw [h.1], h.2⟩)
  intro w1 hw1
  have f1 : Fr (fun _ => False) w w1 := hw1 ▸ Fr.alloc _ _ _
  have h1 := HashAt.zero (T := T_sha_Hash1) block1 start1 hw1
  refine (h1write_spec h1 x (by simp; omega)).mono ?_
  rintro e w3 ⟨rfl, sl', h3, f3, _⟩
  refine ⟨rfl, (h1sum_spec h3 (by simp; omega)).mono ?_⟩
  rintro e w5 ⟨rfl, f5⟩
  refine ⟨_, rfl, rfl, (f1.trans f3 (fun k hk h => ?_)).trans' f5⟩
  rcases h with h | ⟨y, hy, _⟩
  · omega
  · cases hy
end Go.Proofs.YtcnpekohkbjnnaaGreatDoor

/- A digit of a byte. No condition. -/
set_option linter.unusedVariables false
namespace Go.Proofs.YtcnpekohkbjnnaaGreatDoor
open Go Vc HexM Go.Proofs

theorem hexdig_at (n : Nat) (h : n < 16) : byteAt ⟨#[48, 49, 50, 51, 52, 53, 54, 55, 56, 57, 97, 98, 99, 100, 101, 102]⟩ (n : Int) = (hx n : Nat) := by
  rw [byteAt_nat]
  have ha : ((List.range 16).all fun n => byt ⟨#[48, 49, 50, 51, 52, 53, 54, 55, 56, 57, 97, 98, 99, 100, 101, 102]⟩ n == hx n) = true := by decide +kernel
  have := List.all_eq_true.1 ha n (List.mem_range.2 h)
  rw [eq_of_beq this]
theorem and15 (n : Nat) (h : n < 256) : n &&& 15 = n % 16 := Nat.and_two_pow_sub_one_eq_mod n 4
end Go.Proofs.YtcnpekohkbjnnaaGreatDoor

/- Formulas of 1 Go functions of this seat (written by a program of the author's, vcgen.py), and that each is enough for the call. No condition. -/
set_option linter.unusedVariables false
namespace Go.Proofs.YtcnpekohkbjnnaaGreatDoor
open Go Vc Go.Proofs
set_option maxRecDepth 100000
/-- sums.Hex -/
def vc_sums_Hex (x0 : ByteArray) (w : World) (R : Value → World → Prop) : Prop :=
  ∃ I1 : Sl → Int → World → Prop, ∃ I2 : Sl → Int → World → Nat, (I1 (Sl.mk none 0 0) 0 w ∧
   ∀ l3 : Sl,
   ∀ n4 : Int,
   ∀ w5 : World,
   (I1 l3 n4 w5 →
     (((decide (n4 < (↑(ByteArray.size x0) : Int)) = true →
        ∀ w6 : World,
        (Drew w5 w6 →
          ∃ I7 : World → Prop, (I7 w6 ∧
           ((0 ≤ n4 ∧
             n4 < (↑(ByteArray.size x0) : Int)) ∧
            ((0 : Int) ≤ (4 : Int) ∧
             ((0 ≤ Int.fdiv (byteAt x0 n4) (2 ^ min (Int.toNat 4) 8) ∧
               Int.fdiv (byteAt x0 n4) (2 ^ min (Int.toNat 4) 8) < (↑(ByteArray.size (ByteArray.mk (Array.mk [48, 49, 50, 51, 52, 53, 54, 55, 56, 57, 97, 98, 99, 100, 101, 102]))) : Int)) ∧
              ((0 ≤ n4 ∧
                n4 < (↑(ByteArray.size x0) : Int)) ∧
               ((0 ≤ IntKind.wrap IntKind.u8 (↑(BitVec.toNat (BitVec.ofInt 8 (byteAt x0 n4) &&& BitVec.ofInt 8 15)) : Int) ∧
                 IntKind.wrap IntKind.u8 (↑(BitVec.toNat (BitVec.ofInt 8 (byteAt x0 n4) &&& BitVec.ofInt 8 15)) : Int) < (↑(ByteArray.size (ByteArray.mk (Array.mk [48, 49, 50, 51, 52, 53, 54, 55, 56, 57, 97, 98, 99, 100, 101, 102]))) : Int)) ∧
                ∀ w8 : World,
                (w8 = World.alloc w6 (Obj.cells (Array.mk [Value.int IntKind.u8 (byteAt (ByteArray.mk (Array.mk [48, 49, 50, 51, 52, 53, 54, 55, 56, 57, 97, 98, 99, 100, 101, 102])) (Int.fdiv (byteAt x0 n4) (2 ^ min (Int.toNat 4) 8))), Value.int IntKind.u8 (byteAt (ByteArray.mk (Array.mk [48, 49, 50, 51, 52, 53, 54, 55, 56, 57, 97, 98, 99, 100, 101, 102])) (IntKind.wrap IntKind.u8 (↑(BitVec.toNat (BitVec.ofInt 8 (byteAt x0 n4) &&& BitVec.ofInt 8 15)) : Int)))]) 5) →
                  (I7 w8 ∧
                   ∃ w9 : World, ∃ l10 : Sl, (Sem.run Tryz.prog (Builtin.append_ (Array.mk [43, 43]) 43 (Array.mk [Value.slice l3.1 l3.2 l3.3, Value.slice (some (Addr.mk (Array.size (World.heap w6)) 0 none)) 2 2])) w8 = Result.ok (Value.slice l10.1 l10.2 l10.3) w9 ∧
                    (I7 w9 ∧
                     (I1 (Sl.mk l10.1 l10.2 l10.3) (IntKind.wrap IntKind.i64 (n4 + 1)) w9 ∧
                      I2 (Sl.mk l10.1 l10.2 l10.3) (IntKind.wrap IntKind.i64 (n4 + 1)) w9 < I2 l3 n4 w5)))))))))))))) ∧
      (decide (n4 < (↑(ByteArray.size x0) : Int)) = false →
        ∃ w11 : World, ∃ s12 : ByteArray, (Sem.run Tryz.prog (convert 43 9 (Value.slice l3.1 l3.2 l3.3)) w5 = Result.ok (Value.string s12) w11 ∧
         R (Value.string s12) w11)))))
theorem vc_sums_Hex_ok {x0 : ByteArray} {w : World} {R : Value → World → Prop} {R' : Ending → World → Prop} (h : vc_sums_Hex x0 w R) (hR : ∀ v w', R v w' → R' (.returned v) w') :
    Calls Tryz.prog 26 #[.string x0] w R' :=
  calls_of_body (vs := [(.string x0, false)]) (ty := ty) (ann := ⟨[], [(3, [(3, .slice), (7, .int .i64)])], [(5, .held [(0, true), (1, true), (2, true), (3, true), (4, true), (5, true), (6, true), (7, true), (8, true), (9, true), (10, true), (11, false), (12, false), (13, true)])], []⟩) (c := Tryz.f26.body.getD .skip) (by kernel_rfl) Tryz.func26 (by kernel_rfl) (by kernel_rfl) (Eq.mp (by kernel_rfl) h) hR
end Go.Proofs.YtcnpekohkbjnnaaGreatDoor

/- Hex. Conditions: as named. -/
set_option linter.unusedVariables false
namespace Go.Proofs.YtcnpekohkbjnnaaGreatDoor
open Go Vc HexM Go.Proofs

/-- 'Hex'. -/
theorem hex_spec (s : ByteArray) (hs : s.size ≤ 1000000000) (w : World) : Calls Tryz.prog F_sums_Hex #[.string s] w fun e w' => e = .returned (.string ⟨(hexL s.data.toList).toArray⟩) ∧ Fr (fun _ => False) w w' := by
  refine vc_sums_Hex_ok (R := fun v w' => v = .string ⟨(hexL s.data.toList).toArray⟩ ∧ Fr (fun _ => False) w w') ?_ (fun v w' h => ⟨by rw [h.1], h.2⟩)
  refine ⟨fun l n w' => ∃ k : Nat, n = k ∧ k ≤ s.size ∧ Vc.Own w' w.heap.size T_uint8 l (byteV (hexL (s.data.toList.take k))) ∧ Fr (fun _ => False) w w', fun _ n _ => s.size - n.toNat, ⟨0, rfl, Nat.zero_le _, .nil _ _ _, .refl _ _⟩, ?_⟩
  rintro l3 n w5 ⟨k, rfl, hk, ho, hf⟩
  have e1 : IntKind.i64.wrap ((k : Int) + 1) = ((k + 1 : Nat) : Int) := by rw [wrap_i64 (by omega) (by omega)]; omega
  rw [e1]
  have hln : (byteV (hexL (s.data.toList.take k))).length = 2 * k := by rw [bv_len, hexL_length, List.length_take, bs_len]; omega
  refine ⟨fun hlt w6 d6 => ?_, fun hge => ?_⟩
  · have hlt := of_decide_eq_true hlt
    have hb := byt_lt s k
    rw [byteAt_nat]
    have e2 : Int.fdiv ((byt s k : Nat) : Int) (2 ^ min (Int.toNat 4) 8) = ((byt s k / 16 : Nat) : Int) := by
      rw [show (2 : Int) ^ min (Int.toNat 4) 8 = ((16 : Nat) : Int) from rfl, Int.fdiv_eq_ediv_of_nonneg _ (Int.natCast_nonneg _), ← Int.natCast_ediv]
    have e3 : IntKind.u8.wrap (((BitVec.ofInt 8 ((byt s k : Nat) : Int) &&& BitVec.ofInt 8 15).toNat : Nat) : Int) = ((byt s k % 16 : Nat) : Int) := by
      rw [show (15 : Int) = ((15 : Nat) : Int) from rfl, and_nat 8 _ _ (by omega) (by decide), and15 _ hb, wrap_u8 (by omega) (by omega)]
    rw [e2, e3, hexdig_at _ (by omega), hexdig_at _ (by omega)]
    refine ⟨fun _ => True, trivial, ⟨by omega, by omega⟩, by decide, ⟨by omega, ?_⟩, ⟨by omega, by omega⟩, ⟨by omega, ?_⟩, fun w8 h8 => ⟨trivial, ?_⟩⟩
    · rw [show ByteArray.size ⟨#[48, 49, 50, 51, 52, 53, 54, 55, 56, 57, 97, 98, 99, 100, 101, 102]⟩ = 16 from rfl]; omega
    · rw [show ByteArray.size ⟨#[48, 49, 50, 51, 52, 53, 54, 55, 56, 57, 97, 98, 99, 100, 101, 102]⟩ = 16 from rfl]; omega
    obtain ⟨w9, l10, hr, ho9, hf9, _⟩ := append_new elByteH (ho.drew d6) (news := [.int .u8 (hx (byt s k / 16) : Nat), .int .u8 (hx (byt s k % 16) : Nat)]) (by simp [Value.oneCell']) (by rw [hln]; simp only [List.length_cons, List.length_nil]; unfold maxLen; omega) (by rw [hln]; simp only [List.length_cons, List.length_nil]; omega) (Nat.le_trans hf.size (by rw [d6.heap]; exact Nat.le_refl _)) h8 rfl
    refine ⟨w9, l10, hr, trivial, ⟨k + 1, rfl, by omega, ?_, ?_⟩, by dsimp only; omega⟩
    · rw [bs_take (by omega), hexL_snoc, toNat_of _ hb]
      have h1 := hx_lt (n := byt s k / 16) (by omega)
      have h2 := hx_lt (n := byt s k % 16) (by omega)
      have : byteV (hexL (s.data.toList.take k)) ++ [.int .u8 (hx (byt s k / 16) : Nat), .int .u8 (hx (byt s k % 16) : Nat)] = byteV (hexL (s.data.toList.take k) ++ [UInt8.ofNat (hx (byt s k / 16)), UInt8.ofNat (hx (byt s k % 16))]) := by
        simp [byteV]; omega
      rw [← this]; exact ho9
    · exact (hf.trans' (.drew _ d6)).trans hf9 fun q hq ⟨y, hy, e⟩ => by
        have := (ho.blk hy).1; omega
  · have hge := of_decide_eq_false hge
    have : k = s.size := by omega
    subst this
    rw [bs_all] at ho
    exact ⟨_, _, bytes_str (e := T_uint8) (by kernel_rfl) (by kernel_rfl) (by kernel_rfl) l3.cap ho.reads (by rw [ho.len, bv_len]), rfl, hf⟩
end Go.Proofs.YtcnpekohkbjnnaaGreatDoor

/- Structures of the kit over its shelf, at this seat (written by a program of the author's, laysn.py). No condition. -/
namespace Go.Proofs.YtcnpekohkbjnnaaGreatDoor
open Go Go.Shelf Go.Proofs
def lays171_ren : Go.Shelf.Ren := ⟨fun | 129 => 80 | 171 => 34 | 243 => 58 | 246 => 101 | 283 => 129 | 284 => 130 | 285 => 131 | 286 => 132 | 317 => 145 | 318 => 146 | 319 => 147 | 320 => 148 | 337 => 160 | 338 => 161 | n => n, fun | 0 => 0 | 171 => 176 | 173 => 178 | 2 => 2 | 20 => 20 | 212 => 197 | 213 => 198 | 232 => 214 | 233 => 215 | 3 => 3 | 37 => 43 | 4 => 4 | 46 => 69 | 5 => 5 | 51 => 104 | 53 => 95 | 9 => 9 | n => n, fun | 17 => 3 | 18 => 6 | 19 => 7 | n => n⟩
theorem lays171 : Go.Proofs.Lays.n171 Tryz.prog lays171_ren := {
  mixed := by kernel_rfl,
  f129 := Tryz.func80.trans (congrArg some (by kernel_rfl)),
  f171 := Tryz.func34.trans (congrArg some (by kernel_rfl)),
  f243 := Tryz.func58.trans (congrArg some (by kernel_rfl)),
  f246 := Tryz.func101.trans (congrArg some (by kernel_rfl)),
  f283 := Tryz.func129.trans (congrArg some (by kernel_rfl)),
  f284 := Tryz.func130.trans (congrArg some (by kernel_rfl)),
  f285 := Tryz.func131.trans (congrArg some (by kernel_rfl)),
  f286 := Tryz.func132.trans (congrArg some (by kernel_rfl)),
  f317 := Tryz.func145.trans (congrArg some (by kernel_rfl)),
  f318 := Tryz.func146.trans (congrArg some (by kernel_rfl)),
  f319 := Tryz.func147.trans (congrArg some (by kernel_rfl)),
  f320 := Tryz.func148.trans (congrArg some (by kernel_rfl)),
  f337 := Tryz.func160.trans (congrArg some (by kernel_rfl)),
  f338 := Tryz.func161.trans (congrArg some (by kernel_rfl)),
  t0 := Tryz.underlying0,
  a0 := Tryz.isAgg0,
  z0 := Tryz.sizeOf0,
  v0 := Tryz.zeroValue0,
  t2 := Tryz.underlying2,
  a2 := Tryz.isAgg2,
  z2 := Tryz.sizeOf2,
  v2 := Tryz.zeroValue2,
  t3 := Tryz.underlying3,
  a3 := Tryz.isAgg3,
  z3 := Tryz.sizeOf3,
  v3 := Tryz.zeroValue3,
  t4 := Tryz.underlying4,
  a4 := Tryz.isAgg4,
  z4 := Tryz.sizeOf4,
  v4 := Tryz.zeroValue4,
  t5 := Tryz.underlying5,
  a5 := Tryz.isAgg5,
  z5 := Tryz.sizeOf5,
  v5 := Tryz.zeroValue5,
  t9 := Tryz.underlying9,
  a9 := Tryz.isAgg9,
  z9 := Tryz.sizeOf9,
  v9 := Tryz.zeroValue9,
  t20 := Tryz.underlying20,
  a20 := Tryz.isAgg20,
  z20 := Tryz.sizeOf20,
  v20 := Tryz.zeroValue20,
  t37 := Tryz.underlying43,
  a37 := Tryz.isAgg43,
  z37 := Tryz.sizeOf43,
  v37 := Tryz.zeroValue43,
  t46 := Tryz.underlying69,
  a46 := Tryz.isAgg69,
  z46 := Tryz.sizeOf69,
  v46 := Tryz.zeroValue69,
  t51 := Tryz.underlying104,
  a51 := Tryz.isAgg104,
  z51 := Tryz.sizeOf104,
  v51 := Tryz.zeroValue104,
  t53 := Tryz.underlying95,
  a53 := Tryz.isAgg95,
  z53 := Tryz.sizeOf95,
  v53 := Tryz.zeroValue95,
  t171 := Tryz.underlying176,
  a171 := Tryz.isAgg176,
  z171 := Tryz.sizeOf176,
  v171 := Tryz.zeroValue176,
  t173 := Tryz.underlying178,
  a173 := Tryz.isAgg178,
  z173 := Tryz.sizeOf178,
  v173 := Tryz.zeroValue178,
  t212 := Tryz.underlying197,
  a212 := Tryz.isAgg197,
  z212 := Tryz.sizeOf197,
  v212 := Tryz.zeroValue197,
  t213 := Tryz.underlying198,
  a213 := Tryz.isAgg198,
  z213 := Tryz.sizeOf198,
  t232 := Tryz.underlying214,
  a232 := Tryz.isAgg214,
  z232 := Tryz.sizeOf214,
  v232 := Tryz.zeroValue214,
  t233 := Tryz.underlying215,
  a233 := Tryz.isAgg215,
  z233 := Tryz.sizeOf215,
  v233 := Tryz.zeroValue215,
  g17 := by kernel_rfl,
  g18 := by kernel_rfl,
  g19 := by kernel_rfl }
theorem laysM171 : Go.Proofs.LaysM.n171 Tryz.prog lays171_ren := { lays171 with
  i0 := by kernel_rfl,
  i2 := by kernel_rfl,
  i3 := by kernel_rfl,
  i4 := by kernel_rfl,
  i5 := by kernel_rfl,
  i9 := by kernel_rfl,
  i20 := by kernel_rfl,
  i37 := by kernel_rfl,
  i46 := by kernel_rfl,
  i51 := by kernel_rfl,
  i53 := by kernel_rfl,
  i171 := by kernel_rfl,
  i173 := by kernel_rfl,
  i212 := by kernel_rfl,
  i232 := by kernel_rfl,
  i233 := by kernel_rfl,
  m17 := by kernel_rfl,
  m18 := by kernel_rfl,
  m19 := by kernel_rfl }
def lays172_ren : Go.Shelf.Ren := ⟨fun | 129 => 80 | 171 => 34 | 172 => 126 | 205 => 166 | 243 => 58 | 244 => 143 | 245 => 144 | 246 => 101 | 247 => 155 | 279 => 156 | 280 => 157 | 281 => 158 | 282 => 159 | 283 => 129 | 284 => 130 | 285 => 131 | 286 => 132 | 287 => 164 | 316 => 165 | 317 => 145 | 318 => 146 | 319 => 147 | 320 => 148 | 321 => 167 | 322 => 168 | 337 => 160 | 338 => 161 | n => n, fun | 0 => 0 | 127 => 129 | 143 => 217 | 145 => 219 | 167 => 203 | 168 => 206 | 171 => 176 | 173 => 178 | 175 => 209 | 2 => 2 | 20 => 20 | 21 => 21 | 210 => 212 | 212 => 197 | 213 => 198 | 232 => 214 | 233 => 215 | 3 => 3 | 37 => 43 | 4 => 4 | 46 => 69 | 5 => 5 | 51 => 104 | 53 => 95 | 75 => 86 | 76 => 87 | 80 => 91 | 85 => 204 | 9 => 9 | n => n, fun | 15 => 4 | 16 => 5 | 17 => 3 | 18 => 6 | 19 => 7 | n => n⟩
theorem lays172 : Go.Proofs.Lays.n172 Tryz.prog lays172_ren := {
  mixed := by kernel_rfl,
  f129 := Tryz.func80.trans (congrArg some (by kernel_rfl)),
  f171 := Tryz.func34.trans (congrArg some (by kernel_rfl)),
  f172 := Tryz.func126.trans (congrArg some (by kernel_rfl)),
  f205 := Tryz.func166.trans (congrArg some (by kernel_rfl)),
  f243 := Tryz.func58.trans (congrArg some (by kernel_rfl)),
  f244 := Tryz.func143.trans (congrArg some (by kernel_rfl)),
  f245 := Tryz.func144.trans (congrArg some (by kernel_rfl)),
  f246 := Tryz.func101.trans (congrArg some (by kernel_rfl)),
  f247 := Tryz.func155.trans (congrArg some (by kernel_rfl)),
  f279 := Tryz.func156.trans (congrArg some (by kernel_rfl)),
  f280 := Tryz.func157.trans (congrArg some (by kernel_rfl)),
  f281 := Tryz.func158.trans (congrArg some (by kernel_rfl)),
  f282 := Tryz.func159.trans (congrArg some (by kernel_rfl)),
  f283 := Tryz.func129.trans (congrArg some (by kernel_rfl)),
  f284 := Tryz.func130.trans (congrArg some (by kernel_rfl)),
  f285 := Tryz.func131.trans (congrArg some (by kernel_rfl)),
  f286 := Tryz.func132.trans (congrArg some (by kernel_rfl)),
  f287 := Tryz.func164.trans (congrArg some (by kernel_rfl)),
  f316 := Tryz.func165.trans (congrArg some (by kernel_rfl)),
  f317 := Tryz.func145.trans (congrArg some (by kernel_rfl)),
  f318 := Tryz.func146.trans (congrArg some (by kernel_rfl)),
  f319 := Tryz.func147.trans (congrArg some (by kernel_rfl)),
  f320 := Tryz.func148.trans (congrArg some (by kernel_rfl)),
  f321 := Tryz.func167.trans (congrArg some (by kernel_rfl)),
  f322 := Tryz.func168.trans (congrArg some (by kernel_rfl)),
  f337 := Tryz.func160.trans (congrArg some (by kernel_rfl)),
  f338 := Tryz.func161.trans (congrArg some (by kernel_rfl)),
  t0 := Tryz.underlying0,
  a0 := Tryz.isAgg0,
  z0 := Tryz.sizeOf0,
  v0 := Tryz.zeroValue0,
  t2 := Tryz.underlying2,
  a2 := Tryz.isAgg2,
  z2 := Tryz.sizeOf2,
  v2 := Tryz.zeroValue2,
  t3 := Tryz.underlying3,
  a3 := Tryz.isAgg3,
  z3 := Tryz.sizeOf3,
  v3 := Tryz.zeroValue3,
  t4 := Tryz.underlying4,
  a4 := Tryz.isAgg4,
  z4 := Tryz.sizeOf4,
  v4 := Tryz.zeroValue4,
  t5 := Tryz.underlying5,
  a5 := Tryz.isAgg5,
  z5 := Tryz.sizeOf5,
  v5 := Tryz.zeroValue5,
  t9 := Tryz.underlying9,
  a9 := Tryz.isAgg9,
  z9 := Tryz.sizeOf9,
  v9 := Tryz.zeroValue9,
  t20 := Tryz.underlying20,
  a20 := Tryz.isAgg20,
  z20 := Tryz.sizeOf20,
  v20 := Tryz.zeroValue20,
  t21 := Tryz.underlying21,
  a21 := Tryz.isAgg21,
  z21 := Tryz.sizeOf21,
  v21 := Tryz.zeroValue21,
  t37 := Tryz.underlying43,
  a37 := Tryz.isAgg43,
  z37 := Tryz.sizeOf43,
  v37 := Tryz.zeroValue43,
  t46 := Tryz.underlying69,
  a46 := Tryz.isAgg69,
  z46 := Tryz.sizeOf69,
  v46 := Tryz.zeroValue69,
  t51 := Tryz.underlying104,
  a51 := Tryz.isAgg104,
  z51 := Tryz.sizeOf104,
  v51 := Tryz.zeroValue104,
  t53 := Tryz.underlying95,
  a53 := Tryz.isAgg95,
  z53 := Tryz.sizeOf95,
  v53 := Tryz.zeroValue95,
  t75 := Tryz.underlying86,
  a75 := Tryz.isAgg86,
  z75 := Tryz.sizeOf86,
  v75 := Tryz.zeroValue86,
  t76 := Tryz.underlying87,
  a76 := Tryz.isAgg87,
  z76 := Tryz.sizeOf87,
  v76 := Tryz.zeroValue87,
  t85 := Tryz.underlying204,
  a85 := Tryz.isAgg204,
  z85 := Tryz.sizeOf204,
  v85 := Tryz.zeroValue204,
  t127 := Tryz.underlying129,
  a127 := Tryz.isAgg129,
  z127 := Tryz.sizeOf129,
  v127 := Tryz.zeroValue129,
  t143 := Tryz.underlying217,
  a143 := Tryz.isAgg217,
  z143 := Tryz.sizeOf217,
  v143 := Tryz.zeroValue217,
  t145 := Tryz.underlying219,
  a145 := Tryz.isAgg219,
  z145 := Tryz.sizeOf219,
  v145 := Tryz.zeroValue219,
  t167 := Tryz.underlying203,
  a167 := Tryz.isAgg203,
  z167 := Tryz.sizeOf203,
  v167 := Tryz.zeroValue203,
  t168 := Tryz.underlying206,
  a168 := Tryz.isAgg206,
  z168 := Tryz.sizeOf206,
  v168 := Tryz.zeroValue206,
  t171 := Tryz.underlying176,
  a171 := Tryz.isAgg176,
  z171 := Tryz.sizeOf176,
  v171 := Tryz.zeroValue176,
  t173 := Tryz.underlying178,
  a173 := Tryz.isAgg178,
  z173 := Tryz.sizeOf178,
  v173 := Tryz.zeroValue178,
  t175 := Tryz.underlying209,
  a175 := Tryz.isAgg209,
  z175 := Tryz.sizeOf209,
  v175 := Tryz.zeroValue209,
  t210 := Tryz.underlying212,
  a210 := Tryz.isAgg212,
  z210 := Tryz.sizeOf212,
  v210 := Tryz.zeroValue212,
  t212 := Tryz.underlying197,
  a212 := Tryz.isAgg197,
  z212 := Tryz.sizeOf197,
  v212 := Tryz.zeroValue197,
  t213 := Tryz.underlying198,
  a213 := Tryz.isAgg198,
  z213 := Tryz.sizeOf198,
  t232 := Tryz.underlying214,
  a232 := Tryz.isAgg214,
  z232 := Tryz.sizeOf214,
  v232 := Tryz.zeroValue214,
  t233 := Tryz.underlying215,
  a233 := Tryz.isAgg215,
  z233 := Tryz.sizeOf215,
  v233 := Tryz.zeroValue215,
  g15 := by kernel_rfl,
  g16 := by kernel_rfl,
  g17 := by kernel_rfl,
  g18 := by kernel_rfl,
  g19 := by kernel_rfl }
end Go.Proofs.YtcnpekohkbjnnaaGreatDoor

/- Formulas of 7 Go functions of this seat (written by a program of the author's, vcgen.py), and that each is enough for the call. No condition. -/
set_option linter.unusedVariables false
namespace Go.Proofs.YtcnpekohkbjnnaaGreatDoor
open Go Vc Go.Proofs
set_option maxRecDepth 100000
/-- object.Name -/
def vc_object_Name (x0 : Int) (w : World) (R : Value → World → Prop) : Prop :=
  ((((x0 == 1) = true →
     R (Value.string (ByteArray.mk (Array.mk [99, 111, 109, 109, 105, 116]))) w)) ∧
   ((x0 == 1) = false →
     ((((x0 == 2) = true →
        R (Value.string (ByteArray.mk (Array.mk [116, 114, 101, 101]))) w)) ∧
      ((x0 == 2) = false →
        ((((x0 == 3) = true →
           R (Value.string (ByteArray.mk (Array.mk [98, 108, 111, 98]))) w)) ∧
         ((x0 == 3) = false →
           ((((x0 == 4) = true →
              R (Value.string (ByteArray.mk (Array.mk [116, 97, 103]))) w)) ∧
            ((x0 == 4) = false →
              R (Value.string (ByteArray.mk (Array.mk []))) w))))))))
theorem vc_object_Name_ok {x0 : Int} {w : World} {R : Value → World → Prop} {R' : Ending → World → Prop} (h : vc_object_Name x0 w R) (hR : ∀ v w', R v w' → R' (.returned v) w') :
    Calls Tryz.prog 33 #[.int .i64 x0] w R' :=
  calls_of_body (vs := [(.int .i64 x0, false)]) (ty := ty) (ann := ⟨[], [], [], []⟩) (c := Tryz.f33.body.getD .skip) (by kernel_rfl) Tryz.func33 (by kernel_rfl) (by kernel_rfl) (Eq.mp (by kernel_rfl) h) hR
/-- object.Kind -/
def vc_object_Kind (x0 : ByteArray) (w : World) (R : Value → World → Prop) : Prop :=
  ∃ I1 : Int → World → Prop, ∃ I2 : Int → World → Nat, (I1 1 w ∧
   ∀ n3 : Int,
   ∀ w4 : World,
   (I1 n3 w4 →
     (((decide (n3 ≤ 4) = true →
        Calls Tryz.prog (33 : Nat) (Array.mk [Value.int IntKind.i64 n3]) (w4) (fun e5 w6 =>
          ∃ s7 : ByteArray, (e5 = Ending.returned (Value.string s7) ∧
           ((((ByteArray.toList s7 == ByteArray.toList x0) = true →
              R (Value.int IntKind.i64 n3) w6)) ∧
            ((ByteArray.toList s7 == ByteArray.toList x0) = false →
              (I1 (IntKind.wrap IntKind.i64 (n3 + 1)) w6 ∧
               I2 (IntKind.wrap IntKind.i64 (n3 + 1)) w6 < I2 n3 w4))))))) ∧
      (decide (n3 ≤ 4) = false →
        R (Value.int IntKind.i64 0) w4))))
theorem vc_object_Kind_ok {x0 : ByteArray} {w : World} {R : Value → World → Prop} {R' : Ending → World → Prop} (h : vc_object_Kind x0 w R) (hR : ∀ v w', R v w' → R' (.returned v) w') :
    Calls Tryz.prog 96 #[.string x0] w R' :=
  calls_of_body (vs := [(.string x0, false)]) (ty := ty) (ann := ⟨[], [(2, [(3, .int .i64)])], [], []⟩) (c := Tryz.f96.body.getD .skip) (by kernel_rfl) Tryz.func96 (by kernel_rfl) (by kernel_rfl) (Eq.mp (by kernel_rfl) h) hR
/-- object.Number -/
def vc_object_Number (x0 : ByteArray) (w : World) (R : Value → World → Prop) : Prop :=
  Calls Tryz.prog (126 : Nat) (Array.mk [Value.string x0]) (w) (fun e1 w2 =>
    ∃ n3 : Int, ∃ z4 : Unit, (e1 = Ending.returned (Value.tuple (Array.mk [Value.int IntKind.i64 n3, Value.nilIface])) ∧
     ((((!true) = true →
        R (Value.tuple (Array.mk [Value.int IntKind.i64 0, Value.bool false])) w2)) ∧
      ((!true) = false →
        (((decide (n3 < 0) = true →
           R (Value.tuple (Array.mk [Value.int IntKind.i64 0, Value.bool false])) w2)) ∧
         (decide (n3 < 0) = false →
           (((decide ((↑(ByteArray.size x0) : Int) > 9) = true →
              R (Value.tuple (Array.mk [Value.int IntKind.i64 0, Value.bool false])) w2)) ∧
            (decide ((↑(ByteArray.size x0) : Int) > 9) = false →
              Calls Tryz.prog (34 : Nat) (Array.mk [Value.int IntKind.i64 n3]) (w2) (fun e5 w6 =>
                ∃ s7 : ByteArray, (e5 = Ending.returned (Value.string s7) ∧
                 ((((!ByteArray.toList s7 == ByteArray.toList x0) = true →
                    R (Value.tuple (Array.mk [Value.int IntKind.i64 0, Value.bool false])) w6)) ∧
                  ((!ByteArray.toList s7 == ByteArray.toList x0) = false →
                    R (Value.tuple (Array.mk [Value.int IntKind.i64 n3, Value.bool true])) w6))))))))))))
theorem vc_object_Number_ok {x0 : ByteArray} {w : World} {R : Value → World → Prop} {R' : Ending → World → Prop} (h : vc_object_Number x0 w R) (hR : ∀ v w', R v w' → R' (.returned v) w') :
    Calls Tryz.prog 95 #[.string x0] w R' :=
  calls_of_body (vs := [(.string x0, false)]) (ty := ty) (ann := ⟨[], [], [], []⟩) (c := Tryz.f95.body.getD .skip) (by kernel_rfl) Tryz.func95 (by kernel_rfl) (by kernel_rfl) (Eq.mp (by kernel_rfl) h) hR
/-- object.Check -/
def vc_object_Check (x0_0 : Int) (x0_1 : ByteArray) (w : World) (R : Value → World → Prop) : Prop :=
  ∀ w1 : World,
  (w1 = World.alloc w (Obj.cells (Array.mk [Value.int IntKind.i64 x0_0, Value.string x0_1]) 30) →
    ∃ n2 : Int, (World.cell? w1 (Addr.mk (Array.size (World.heap w)) 0 none) = some (Value.int IntKind.i64 n2) ∧
     Calls Tryz.prog (33 : Nat) (Array.mk [Value.int IntKind.i64 n2]) (w1) (fun e3 w4 =>
       ∃ s5 : ByteArray, (e3 = Ending.returned (Value.string s5) ∧
        ((((ByteArray.toList s5 == ByteArray.toList (ByteArray.mk (Array.mk []))) = true →
           R (Value.int IntKind.i64 10) w4)) ∧
         ((ByteArray.toList s5 == ByteArray.toList (ByteArray.mk (Array.mk []))) = false →
           ∃ s6 : ByteArray, (World.cell? w4 (Addr.mk (Array.size (World.heap w)) 1 none) = some (Value.string s6) ∧
            (((decide ((↑(ByteArray.size s6) : Int) > 65000) = true →
               R (Value.int IntKind.i64 2) w4)) ∧
             (decide ((↑(ByteArray.size s6) : Int) > 65000) = false →
               R (Value.int IntKind.i64 0) w4)))))))))
theorem vc_object_Check_ok {x0_0 : Int} {x0_1 : ByteArray} {w : World} {R : Value → World → Prop} {R' : Ending → World → Prop} (h : vc_object_Check x0_0 x0_1 w R) (hR : ∀ v w', R v w' → R' (.returned v) w') :
    Calls Tryz.prog 32 #[.agg #[.int .i64 x0_0, .string x0_1]] w R' :=
  calls_of_body (vs := [(.agg #[.int .i64 x0_0, .string x0_1], false)]) (ty := ty) (ann := ⟨[], [], [], []⟩) (c := Tryz.f32.body.getD .skip) (by kernel_rfl) Tryz.func32 (by kernel_rfl) (by kernel_rfl) (Eq.mp (by kernel_rfl) h) hR
/-- object.Encode -/
def vc_object_Encode (x0_0 : Int) (x0_1 : ByteArray) (w : World) (R : Value → World → Prop) : Prop :=
  ∀ w1 : World,
  (w1 = World.alloc w (Obj.cells (Array.mk [Value.int IntKind.i64 x0_0, Value.string x0_1]) 30) →
    ∃ n2 : Int, ∃ s3 : ByteArray, (Sem.run Tryz.prog (loadVar 30 (Addr.mk (Array.size (World.heap w)) 0 none)) w1 = Result.ok (Value.agg (Array.mk [Value.int IntKind.i64 n2, Value.string s3])) w1 ∧
     Calls Tryz.prog (32 : Nat) (Array.mk [Value.agg (Array.mk [Value.int IntKind.i64 n2, Value.string s3])]) (w1) (fun e4 w5 =>
       ∃ n6 : Int, (e4 = Ending.returned (Value.int IntKind.i64 n6) ∧
        ((((n6 != 0) = true →
           R (Value.tuple (Array.mk [Value.string (ByteArray.mk (Array.mk [])), Value.int IntKind.i64 n6])) w5)) ∧
         ((n6 != 0) = false →
           ∀ w7 : World,
           (Drew w5 w7 →
             ∃ I8 : World → Prop, (I8 w7 ∧
              ∃ n9 : Int, ((∀ w10 : World,
               (I8 w10 →
                 World.cell? w10 (Addr.mk (Array.size (World.heap w)) 0 none) = some (Value.int IntKind.i64 n9))) ∧
               ∃ s11 : ByteArray, ((∀ w12 : World,
                (I8 w12 →
                  World.cell? w12 (Addr.mk (Array.size (World.heap w)) 1 none) = some (Value.string s11))) ∧
                ∃ s13 : ByteArray, ((∀ w14 : World,
                 (I8 w14 →
                   World.cell? w14 (Addr.mk (Array.size (World.heap w)) 1 none) = some (Value.string s13))) ∧
                 Calls Tryz.prog (33 : Nat) (Array.mk [Value.int IntKind.i64 n9]) (w7) (fun e15 w16 =>
                   ∃ s17 : ByteArray, (e15 = Ending.returned (Value.string s17) ∧
                    (I8 w16 ∧
                     (ByteArray.size s17 + ByteArray.size (ByteArray.mk (Array.mk [32])) ≤ 9223372036854775807 ∧
                      Calls Tryz.prog (34 : Nat) (Array.mk [Value.int IntKind.i64 (↑(ByteArray.size s11) : Int)]) (w16) (fun e18 w19 =>
                        ∃ s20 : ByteArray, (e18 = Ending.returned (Value.string s20) ∧
                         (I8 w19 ∧
                          (ByteArray.size (s17 ++ ByteArray.mk (Array.mk [32])) + ByteArray.size s20 ≤ 9223372036854775807 ∧
                           (ByteArray.size (s17 ++ ByteArray.mk (Array.mk [32]) ++ s20) + ByteArray.size (ByteArray.mk (Array.mk [0])) ≤ 9223372036854775807 ∧
                            (ByteArray.size (s17 ++ ByteArray.mk (Array.mk [32]) ++ s20 ++ ByteArray.mk (Array.mk [0])) + ByteArray.size s13 ≤ 9223372036854775807 ∧
                             R (Value.tuple (Array.mk [Value.string (s17 ++ ByteArray.mk (Array.mk [32]) ++ s20 ++ ByteArray.mk (Array.mk [0]) ++ s13), Value.int IntKind.i64 0])) w19)))))))))))))))))))))
theorem vc_object_Encode_ok {x0_0 : Int} {x0_1 : ByteArray} {w : World} {R : Value → World → Prop} {R' : Ending → World → Prop} (h : vc_object_Encode x0_0 x0_1 w R) (hR : ∀ v w', R v w' → R' (.returned v) w') :
    Calls Tryz.prog 15 #[.agg #[.int .i64 x0_0, .string x0_1]] w R' :=
  calls_of_body (vs := [(.agg #[.int .i64 x0_0, .string x0_1], false)]) (ty := ty) (ann := ⟨[], [], [(4, .held [(0, true), (1, true), (4, true), (5, true), (6, true), (10, true), (11, true), (2, false), (3, true), (7, false), (8, true), (9, true), (12, true), (13, true), (14, true)])], []⟩) (c := Tryz.f15.body.getD .skip) (by kernel_rfl) Tryz.func15 (by kernel_rfl) (by kernel_rfl) (Eq.mp (by kernel_rfl) h) hR
/-- object.Decode -/
def vc_object_Decode (x0 : ByteArray) (w : World) (R : Value → World → Prop) : Prop :=
  ∀ w1 : World,
  (w1 = World.alloc w (Obj.cells (Array.mk [Value.int IntKind.i64 0, Value.string (ByteArray.mk (Array.mk []))]) 30) →
    Calls Tryz.prog (94 : Nat) (Array.mk [Value.string x0, Value.string (ByteArray.mk (Array.mk [0]))]) (w1) (fun e2 w3 =>
      ∃ s4 : ByteArray, ∃ s5 : ByteArray, ∃ b6 : Bool, (e2 = Ending.returned (Value.tuple (Array.mk [Value.string s4, Value.string s5, Value.bool b6])) ∧
       Calls Tryz.prog (94 : Nat) (Array.mk [Value.string s4, Value.string (ByteArray.mk (Array.mk [32]))]) (w3) (fun e7 w8 =>
         ∃ s9 : ByteArray, ∃ s10 : ByteArray, ∃ b11 : Bool, (e7 = Ending.returned (Value.tuple (Array.mk [Value.string s9, Value.string s10, Value.bool b11])) ∧
          Calls Tryz.prog (95 : Nat) (Array.mk [Value.string s10]) (w8) (fun e12 w13 =>
            ∃ n14 : Int, ∃ b15 : Bool, (e12 = Ending.returned (Value.tuple (Array.mk [Value.int IntKind.i64 n14, Value.bool b15])) ∧
             ((((!b6) = true →
                ∃ w16 : World, (Sem.run Tryz.prog (storeVar 30 (Addr.mk (Array.size (World.heap w)) 0 none) (Value.agg (Array.mk [Value.int IntKind.i64 0, Value.string (ByteArray.mk (Array.mk []))]))) w13 = Result.ok PUnit.unit w16 ∧
                 ∃ n17 : Int, ∃ s18 : ByteArray, (Sem.run Tryz.prog (loadVar 30 (Addr.mk (Array.size (World.heap w)) 0 none)) w16 = Result.ok (Value.agg (Array.mk [Value.int IntKind.i64 n17, Value.string s18])) w16 ∧
                  R (Value.tuple (Array.mk [Value.agg (Array.mk [Value.int IntKind.i64 n17, Value.string s18]), Value.int IntKind.i64 3])) w16)))) ∧
              ((!b6) = false →
                ((((!b11) = true →
                   ∃ w19 : World, (Sem.run Tryz.prog (storeVar 30 (Addr.mk (Array.size (World.heap w)) 0 none) (Value.agg (Array.mk [Value.int IntKind.i64 0, Value.string (ByteArray.mk (Array.mk []))]))) w13 = Result.ok PUnit.unit w19 ∧
                    ∃ n20 : Int, ∃ s21 : ByteArray, (Sem.run Tryz.prog (loadVar 30 (Addr.mk (Array.size (World.heap w)) 0 none)) w19 = Result.ok (Value.agg (Array.mk [Value.int IntKind.i64 n20, Value.string s21])) w19 ∧
                     R (Value.tuple (Array.mk [Value.agg (Array.mk [Value.int IntKind.i64 n20, Value.string s21]), Value.int IntKind.i64 3])) w19)))) ∧
                 ((!b11) = false →
                   ((((!b15) = true →
                      ∃ w22 : World, (Sem.run Tryz.prog (storeVar 30 (Addr.mk (Array.size (World.heap w)) 0 none) (Value.agg (Array.mk [Value.int IntKind.i64 0, Value.string (ByteArray.mk (Array.mk []))]))) w13 = Result.ok PUnit.unit w22 ∧
                       ∃ n23 : Int, ∃ s24 : ByteArray, (Sem.run Tryz.prog (loadVar 30 (Addr.mk (Array.size (World.heap w)) 0 none)) w22 = Result.ok (Value.agg (Array.mk [Value.int IntKind.i64 n23, Value.string s24])) w22 ∧
                        R (Value.tuple (Array.mk [Value.agg (Array.mk [Value.int IntKind.i64 n23, Value.string s24]), Value.int IntKind.i64 3])) w22)))) ∧
                    ((!b15) = false →
                      Calls Tryz.prog (96 : Nat) (Array.mk [Value.string s9]) (w13) (fun e25 w26 =>
                        ∃ n27 : Int, (e25 = Ending.returned (Value.int IntKind.i64 n27) ∧
                         ((((n27 == 0) = true →
                            ∃ w28 : World, (Sem.run Tryz.prog (storeVar 30 (Addr.mk (Array.size (World.heap w)) 0 none) (Value.agg (Array.mk [Value.int IntKind.i64 0, Value.string (ByteArray.mk (Array.mk []))]))) w26 = Result.ok PUnit.unit w28 ∧
                             ∃ n29 : Int, ∃ s30 : ByteArray, (Sem.run Tryz.prog (loadVar 30 (Addr.mk (Array.size (World.heap w)) 0 none)) w28 = Result.ok (Value.agg (Array.mk [Value.int IntKind.i64 n29, Value.string s30])) w28 ∧
                              R (Value.tuple (Array.mk [Value.agg (Array.mk [Value.int IntKind.i64 n29, Value.string s30]), Value.int IntKind.i64 10])) w28)))) ∧
                          ((n27 == 0) = false →
                            (((decide (n14 > 65000) = true →
                               ∃ w31 : World, (Sem.run Tryz.prog (storeVar 30 (Addr.mk (Array.size (World.heap w)) 0 none) (Value.agg (Array.mk [Value.int IntKind.i64 0, Value.string (ByteArray.mk (Array.mk []))]))) w26 = Result.ok PUnit.unit w31 ∧
                                ∃ n32 : Int, ∃ s33 : ByteArray, (Sem.run Tryz.prog (loadVar 30 (Addr.mk (Array.size (World.heap w)) 0 none)) w31 = Result.ok (Value.agg (Array.mk [Value.int IntKind.i64 n32, Value.string s33])) w31 ∧
                                 R (Value.tuple (Array.mk [Value.agg (Array.mk [Value.int IntKind.i64 n32, Value.string s33]), Value.int IntKind.i64 2])) w31)))) ∧
                             (decide (n14 > 65000) = false →
                               (((decide ((↑(ByteArray.size s5) : Int) < n14) = true →
                                  ∃ w34 : World, (Sem.run Tryz.prog (storeVar 30 (Addr.mk (Array.size (World.heap w)) 0 none) (Value.agg (Array.mk [Value.int IntKind.i64 0, Value.string (ByteArray.mk (Array.mk []))]))) w26 = Result.ok PUnit.unit w34 ∧
                                   ∃ n35 : Int, ∃ s36 : ByteArray, (Sem.run Tryz.prog (loadVar 30 (Addr.mk (Array.size (World.heap w)) 0 none)) w34 = Result.ok (Value.agg (Array.mk [Value.int IntKind.i64 n35, Value.string s36])) w34 ∧
                                    R (Value.tuple (Array.mk [Value.agg (Array.mk [Value.int IntKind.i64 n35, Value.string s36]), Value.int IntKind.i64 6])) w34)))) ∧
                                (decide ((↑(ByteArray.size s5) : Int) < n14) = false →
                                  (((decide ((↑(ByteArray.size s5) : Int) > n14) = true →
                                     ∃ w37 : World, (Sem.run Tryz.prog (storeVar 30 (Addr.mk (Array.size (World.heap w)) 0 none) (Value.agg (Array.mk [Value.int IntKind.i64 0, Value.string (ByteArray.mk (Array.mk []))]))) w26 = Result.ok PUnit.unit w37 ∧
                                      ∃ n38 : Int, ∃ s39 : ByteArray, (Sem.run Tryz.prog (loadVar 30 (Addr.mk (Array.size (World.heap w)) 0 none)) w37 = Result.ok (Value.agg (Array.mk [Value.int IntKind.i64 n38, Value.string s39])) w37 ∧
                                       R (Value.tuple (Array.mk [Value.agg (Array.mk [Value.int IntKind.i64 n38, Value.string s39]), Value.int IntKind.i64 3])) w37)))) ∧
                                   (decide ((↑(ByteArray.size s5) : Int) > n14) = false →
                                     Calls Tryz.prog (96 : Nat) (Array.mk [Value.string s9]) (w26) (fun e40 w41 =>
                                       ∃ n42 : Int, (e40 = Ending.returned (Value.int IntKind.i64 n42) ∧
                                        ∃ w43 : World, (Sem.run Tryz.prog (storeVar 30 (Addr.mk (Array.size (World.heap w)) 0 none) (Value.agg (Array.mk [Value.int IntKind.i64 n42, Value.string s5]))) w41 = Result.ok PUnit.unit w43 ∧
                                         ∃ n44 : Int, ∃ s45 : ByteArray, (Sem.run Tryz.prog (loadVar 30 (Addr.mk (Array.size (World.heap w)) 0 none)) w43 = Result.ok (Value.agg (Array.mk [Value.int IntKind.i64 n44, Value.string s45])) w43 ∧
                                          R (Value.tuple (Array.mk [Value.agg (Array.mk [Value.int IntKind.i64 n44, Value.string s45]), Value.int IntKind.i64 0])) w43)))))))))))))))))))))))))))
theorem vc_object_Decode_ok {x0 : ByteArray} {w : World} {R : Value → World → Prop} {R' : Ending → World → Prop} (h : vc_object_Decode x0 w R) (hR : ∀ v w', R v w' → R' (.returned v) w') :
    Calls Tryz.prog 53 #[.string x0] w R' :=
  calls_of_body (vs := [(.string x0, false)]) (ty := ty) (ann := ⟨[], [], [], []⟩) (c := Tryz.f53.body.getD .skip) (by kernel_rfl) Tryz.func53 (by kernel_rfl) (by kernel_rfl) (Eq.mp (by kernel_rfl) h) hR
/-- object.Id -/
def vc_object_Id (x0_0 : Int) (x0_1 : ByteArray) (w : World) (R : Value → World → Prop) : Prop :=
  ∀ w1 : World,
  (w1 = World.alloc w (Obj.cells (Array.mk [Value.int IntKind.i64 x0_0, Value.string x0_1]) 30) →
    ∃ n2 : Int, ∃ s3 : ByteArray, (Sem.run Tryz.prog (loadVar 30 (Addr.mk (Array.size (World.heap w)) 0 none)) w1 = Result.ok (Value.agg (Array.mk [Value.int IntKind.i64 n2, Value.string s3])) w1 ∧
     Calls Tryz.prog (15 : Nat) (Array.mk [Value.agg (Array.mk [Value.int IntKind.i64 n2, Value.string s3])]) (w1) (fun e4 w5 =>
       ∃ s6 : ByteArray, ∃ n7 : Int, (e4 = Ending.returned (Value.tuple (Array.mk [Value.string s6, Value.int IntKind.i64 n7])) ∧
        ((((n7 != 0) = true →
           R (Value.tuple (Array.mk [Value.string (ByteArray.mk (Array.mk [])), Value.int IntKind.i64 n7])) w5)) ∧
         ((n7 != 0) = false →
           Calls Tryz.prog (27 : Nat) (Array.mk [Value.string s6]) (w5) (fun e8 w9 =>
             ∃ s10 : ByteArray, (e8 = Ending.returned (Value.string s10) ∧
              Calls Tryz.prog (26 : Nat) (Array.mk [Value.string s10]) (w9) (fun e11 w12 =>
                ∃ s13 : ByteArray, (e11 = Ending.returned (Value.string s13) ∧
                 R (Value.tuple (Array.mk [Value.string s13, Value.int IntKind.i64 0])) w12))))))))))
theorem vc_object_Id_ok {x0_0 : Int} {x0_1 : ByteArray} {w : World} {R : Value → World → Prop} {R' : Ending → World → Prop} (h : vc_object_Id x0_0 x0_1 w R) (hR : ∀ v w', R v w' → R' (.returned v) w') :
    Calls Tryz.prog 10 #[.agg #[.int .i64 x0_0, .string x0_1]] w R' :=
  calls_of_body (vs := [(.agg #[.int .i64 x0_0, .string x0_1], false)]) (ty := ty) (ann := ⟨[], [], [], []⟩) (c := Tryz.f10.body.getD .skip) (by kernel_rfl) Tryz.func10 (by kernel_rfl) (by kernel_rfl) (Eq.mp (by kernel_rfl) h) hR
end Go.Proofs.YtcnpekohkbjnnaaGreatDoor

/- Objects: Name, Kind, Number of at most five digits. Conditions: as named. -/
set_option linter.unusedVariables false
namespace Go.Proofs.YtcnpekohkbjnnaaGreatDoor
open Go Vc HexM ShaM Go.Proofs

def kname (k : Int) : ByteArray := if k = 1 then ⟨#[99, 111, 109, 109, 105, 116]⟩ else if k = 2 then ⟨#[116, 114, 101, 101]⟩ else if k = 3 then ⟨#[98, 108, 111, 98]⟩ else if k = 4 then ⟨#[116, 97, 103]⟩ else ⟨#[]⟩
theorem oname_spec (k : Int) (w : World) : Calls Tryz.prog F_object_Name #[.int .i64 k] w fun e w' => e = .returned (.string (kname k)) ∧ w' = w := by
  refine vc_object_Name_ok (R := fun v w' => v = .string (kname k) ∧ w' = w) ?_ (fun v w' h => ⟨by rw [h.1], h.2⟩)
  have bq : ∀ {a b : Int} {r : Bool}, (a == b) = r → decide (a = b) = r := fun h => by rw [← h]; rfl
  unfold kname
  refine ⟨fun h => ?_, fun h => ⟨fun h2 => ?_, fun h2 => ⟨fun h3 => ?_, fun h3 => ⟨fun h4 => ?_, fun h4 => ?_⟩⟩⟩⟩
  · rw [if_pos (eq_of_beq h)]; exact ⟨rfl, rfl⟩
  · rw [if_neg (of_decide_eq_false (bq h)), if_pos (eq_of_beq h2)]; exact ⟨rfl, rfl⟩
  · rw [if_neg (of_decide_eq_false (bq h)), if_neg (of_decide_eq_false (bq h2)), if_pos (eq_of_beq h3)]; exact ⟨rfl, rfl⟩
  · rw [if_neg (of_decide_eq_false (bq h)), if_neg (of_decide_eq_false (bq h2)), if_neg (of_decide_eq_false (bq h3)), if_pos (eq_of_beq h4)]; exact ⟨rfl, rfl⟩
  · rw [if_neg (of_decide_eq_false (bq h)), if_neg (of_decide_eq_false (bq h2)), if_neg (of_decide_eq_false (bq h3)), if_neg (of_decide_eq_false (bq h4))]; exact ⟨rfl, rfl⟩
def isKind (k : Int) : Prop := k = 1 ∨ k = 2 ∨ k = 3 ∨ k = 4
theorem kname_ok {k : Int} (h : isKind k) : kname k ≠ ⟨#[]⟩ ∧ (kname k).size ≤ 6 ∧ (0 : UInt8) ∉ (kname k).data.toList ∧ (32 : UInt8) ∉ (kname k).data.toList := by
  rcases h with rfl | rfl | rfl | rfl <;> exact ⟨by decide, by decide, by decide, by decide⟩
theorem kname_no {k : Int} (h : ¬ isKind k) : kname k = ⟨#[]⟩ := by
  unfold isKind at h
  unfold kname
  rw [if_neg (fun e => h (.inl e)), if_neg (fun e => h (.inr (.inl e))), if_neg (fun e => h (.inr (.inr (.inl e)))), if_neg (fun e => h (.inr (.inr (.inr e))))]
theorem okind_spec {k : Int} (h : isKind k) (w : World) : Calls Tryz.prog F_object_Kind #[.string (kname k)] w fun e w' => e = .returned (.int .i64 k) ∧ w' = w := by
  refine vc_object_Kind_ok (R := fun v w' => v = .int .i64 k ∧ w' = w) ?_ (fun v w' h => ⟨by rw [h.1], h.2⟩)
  have hk : 1 ≤ k ∧ k ≤ 4 := by unfold isKind at h; omega
  refine ⟨fun i w' => 1 ≤ i ∧ i ≤ k ∧ w' = w, fun i _ => (5 - i).toNat, ⟨by omega, hk.1, rfl⟩, ?_⟩
  rintro i w4 ⟨h1, h2, hw⟩
  replace hw := hw.symm
  subst hw
  refine ⟨fun _ => (oname_spec i w).mono ?_, fun h => by have := of_decide_eq_false h; omega⟩
  rintro e w6 ⟨rfl, hw⟩
  replace hw := hw.symm
  subst hw
  have hi : isKind i := by unfold isKind; omega
  refine ⟨_, rfl, fun he => ?_, fun he => ?_⟩
  · rw [bs_eq] at he
    have he := of_decide_eq_true he
    refine ⟨?_, rfl⟩
    rcases h with rfl | rfl | rfl | rfl <;> rcases hi with rfl | rfl | rfl | rfl <;> first | rfl | exact absurd he (by decide)
  · rw [bs_eq] at he
    have he := of_decide_eq_false he
    have hne : i ≠ k := fun e => he (by rw [e])
    rw [wrap_i64 (by omega) (by omega)]
    exact ⟨⟨by omega, by omega, rfl⟩, by dsimp only; omega⟩
/-- The table that Itoa looks into. -/
def Tab10 (w : World) : Prop := Lib.TabIs Tryz.prog w "internal/strconv.uint64pow10" .u64 Lib.pow10Tab
theorem Tab10.keep {w w1 : World} (h : Tab10 w) (hf : Fr (fun _ => False) w w1) : Tab10 w1 := by
  unfold Tab10 Lib.TabIs World.var? at h ⊢
  obtain ⟨g, hg, h2⟩ := Option.bind_eq_some_iff.1 h
  rw [hg, Option.bind_some]
  cases hb : w.heap[g]? with
  | none => rw [hb] at h2; cases h2
  | some o =>
    rw [hb] at h2
    have := hf.blk g (lt_blk hb) (by simp)
    rw [this, hb]; exact h2
theorem decFrom_snoc (b : UInt8) : ∀ (l : List UInt8) (acc : Nat), Lib.decFrom acc (l ++ [b]) = (Lib.decFrom acc l).bind fun n => (Lib.digitVal b).map fun d => n * 10 + d
  | [], acc => by
    simp only [List.nil_append, Lib.decFrom, Option.bind_some]
    cases Lib.digitVal b <;> rfl
  | c :: r, acc => by
    rw [List.cons_append, Lib.decFrom, Lib.decFrom]
    cases Lib.digitVal c with
    | none => rfl
    | some d => exact decFrom_snoc b r _
theorem digit_val {d : Nat} (h : d < 10) : Lib.digitVal (UInt8.ofNat (48 + d)) = some d := by
  unfold Lib.digitVal
  rw [toNat_of _ (by omega), if_pos (by omega)]
  congr 1; omega
theorem dec_from : ∀ u : Nat, Lib.decFrom 0 (Lib.decDigits u) = some u := fun u => by
  induction u using Nat.strongRecOn with
  | _ u ih =>
    rw [Lib.decDigits]
    by_cases h : u < 10
    · rw [dif_pos h]
      simp only [Lib.decFrom, digit_val h, Nat.zero_mul, Nat.zero_add]
    · rw [dif_neg h, decFrom_snoc, ih (u / 10) (by omega), Option.bind_some, digit_val (Nat.mod_lt _ (by decide)), Option.map_some]
      congr 1; omega
theorem dec_digits : ∀ (u : Nat), ∀ b ∈ Lib.decDigits u, 48 ≤ b.toNat ∧ b.toNat ≤ 57 := fun u => by
  induction u using Nat.strongRecOn with
  | _ u ih =>
    rw [Lib.decDigits]
    by_cases h : u < 10
    · rw [dif_pos h]
      intro b hb
      rw [List.mem_singleton] at hb
      subst hb
      rw [toNat_of _ (by omega)]; omega
    · rw [dif_neg h]
      intro b hb
      rcases List.mem_append.1 hb with hb | hb
      · exact ih (u / 10) (by omega) b hb
      · rw [List.mem_singleton] at hb
        subst hb
        rw [toNat_of _ (by omega)]; omega
theorem dec_len : ∀ (k u : Nat), u < 10 ^ (k + 1) → (Lib.decDigits u).length ≤ k + 1
  | 0, u, h => by rw [Lib.decDigits, dif_pos (by simpa using h)]; exact Nat.le_refl _
  | k + 1, u, h => by
    rw [Lib.decDigits]
    by_cases h1 : u < 10
    · rw [dif_pos h1]; simp
    · rw [dif_neg h1, List.length_append]
      have := dec_len k (u / 10) (by rw [Nat.pow_succ] at h; omega)
      simp only [List.length_cons, List.length_nil]; omega
theorem dec_ne (u : Nat) : Lib.decDigits u ≠ [] := by
  rw [Lib.decDigits]
  by_cases h : u < 10
  · rw [dif_pos h]; simp
  · rw [dif_neg h]; simp
/-- A number's digits. -/
def dec3 (n : Nat) : List UInt8 := Lib.decDigits n
theorem itoa_dec (n : Nat) : Lib.itoa (n : Int) = dec3 n := by
  unfold Lib.itoa
  rw [if_neg (by omega), Int.toNat_natCast]; rfl
theorem dec_facts (n : Nat) (hn : n < 65001) : Lib.atoi (dec3 n) = some (n : Int) ∧ (dec3 n).length ≤ 5 ∧ (0 : UInt8) ∉ dec3 n ∧ (32 : UInt8) ∉ dec3 n := by
  have hd := dec_digits n
  refine ⟨?_, dec_len 4 n (by omega), fun h => ?_, fun h => ?_⟩
  · have hf := dec_from n
    unfold dec3
    cases hl : Lib.decDigits n with
    | nil => exact absurd hl (dec_ne n)
    | cons b r =>
      rw [hl] at hd hf
      have hb := hd b List.mem_cons_self
      have n45 : (b == 45) = false := by
        rw [beq_eq_false_iff_ne]; rintro rfl; exact absurd hb.1 (by decide)
      have n43 : (b == 43) = false := by
        rw [beq_eq_false_iff_ne]; rintro rfl; exact absurd hb.1 (by decide)
      unfold Lib.atoi
      simp only [n45, n43]
      unfold Lib.decNat
      simp [hf]
  · exact absurd (hd 0 h).1 (by decide)
  · exact absurd (hd 32 h).1 (by decide)
theorem itoa_spec (n : Nat) (hn : n ≤ 65000) {w : World} (ht : Tab10 w) : Calls Tryz.prog F_strconv_Itoa #[.int .i64 (n : Int)] w fun e w' => e = .returned (.string ⟨(Lib.itoa (n : Int)).toArray⟩) ∧ Fr (fun _ => False) w w' :=
  (Any.strconv_Itoa laysM171 (n : Int) (by omega) (by omega) w ht).mono fun e w' ⟨h, k, os, hw⟩ => ⟨h, by rw [hw]; exact grow_fr _ _ _⟩
theorem bytesWorld_fr (w : World) (e : TypeId) (s : ByteArray) : Fr (fun _ => False) w (Lib.bytesWorld w e s) :=
  ⟨rfl, rfl, rfl, by rw [Lib.bytesWorld_size]; omega, fun k hk _ => Lib.bytesWorld_at_old _ _ _ _ hk⟩
theorem onumber_spec (n : Nat) (hn : n < 65001) {w : World} (ht : Tab10 w) : Calls Tryz.prog F_object_Number #[.string ⟨(dec3 n).toArray⟩] w fun e w' => e = .returned (.tuple #[.int .i64 (n : Int), .bool true]) ∧ Fr (fun _ => False) w w' := by
  refine vc_object_Number_ok (R := fun v w' => v = .tuple #[.int .i64 (n : Int), .bool true] ∧ Fr (fun _ => False) w w') ?_ (fun v w' h => ⟨by rw [h.1], h.2⟩)
  obtain ⟨f1, f2, _⟩ := dec_facts n hn
  have hsz : (⟨(dec3 n).toArray⟩ : ByteArray).size ≤ 5 := by rw [bs_mksize]; exact f2
  refine (Any.strconv_Atoi lays172 ⟨(dec3 n).toArray⟩ (n : Int) (by omega) (by rw [bs_mk]; exact f1) w).mono ?_
  rintro e w2 ⟨rfl, t, rfl⟩
  have hf2 := bytesWorld_fr w (lays172_ren.t 5) t
  generalize Lib.bytesWorld w (lays172_ren.t 5) t = w2 at hf2
  refine ⟨_, ⟨⟩, rfl, fun h => (by cases h), fun _ => ⟨fun h => (by have := of_decide_eq_true h; omega), fun _ => ⟨fun h => (by have := of_decide_eq_true h; omega), fun _ => (itoa_spec n (by omega) (ht.keep hf2)).mono ?_⟩⟩⟩
  rintro e w6 ⟨rfl, hf6⟩
  rw [itoa_dec]
  exact ⟨_, rfl, fun h => (by rw [beq_self_eq_true] at h; cases h), fun _ => ⟨rfl, hf2.trans' hf6⟩⟩
end Go.Proofs.YtcnpekohkbjnnaaGreatDoor

/- Go's text functions of this seat: Cut at one byte. Condition: the text is no longer than memory. -/
set_option linter.unusedVariables false
namespace Go.Proofs.YtcnpekohkbjnnaaGreatDoor
open Go Vc Go.Proofs

theorem cutL_spec (s : ByteArray) (hs : s.size ≤ 140737488355328) (c : Nat) (hc : c < 256) (w : World) : Calls Tryz.prog F_stringslite_Cut #[.string s, .string ⟨#[UInt8.ofNat c]⟩] w fun e w' =>
    e = .returned (.tuple #[.string (cutS s (UInt8.ofNat c)).1, .string (cutS s (UInt8.ofNat c)).2.1, .bool (cutS s (UInt8.ofNat c)).2.2]) ∧ Drew w w' := by
  refine vc_stringslite_Cut_ok (R := fun v w' => v = .tuple #[.string (cutS s (UInt8.ofNat c)).1, .string (cutS s (UInt8.ofNat c)).2.1, .bool (cutS s (UInt8.ofNat c)).2.2] ∧ Drew w w') ?_ (fun v w' h => ⟨by rw [h.1], h.2⟩)
  refine (index1_spec s c hc w).mono ?_
  rintro e w2 ⟨rfl, rfl⟩
  have h1 : (ByteArray.mk #[UInt8.ofNat c]).size = 1 := rfl
  unfold cutS
  rcases fnd_cases s (UInt8.ofNat c) with ⟨h, _⟩ | ⟨i, h, hi, _⟩
  · rw [h, if_pos rfl]
    exact ⟨_, rfl, fun h => absurd h (by decide), fun _ => ⟨rfl, .refl _⟩⟩
  · rw [h, if_neg (by omega)]
    refine ⟨_, rfl, ?_⟩
    rw [h1]
    have e1 : IntKind.i64.wrap ((i : Int) + ((1 : Nat) : Int)) = ((i + 1 : Nat) : Int) := by rw [wrap_i64 (by omega) (by omega)]; omega
    rw [e1]
    exact ⟨fun _ => ⟨⟨by omega, by omega⟩, ⟨by omega, by omega⟩, fun w4 hd => ⟨by simp only [Int.toNat_natCast], hd⟩⟩, fun h => absurd (of_decide_eq_false h) (by omega)⟩
theorem cut_spec (s : ByteArray) (hs : s.size ≤ 140737488355328) (c : Nat) (hc : c < 256) (w : World) : Calls Tryz.prog F_strings_Cut #[.string s, .string ⟨#[UInt8.ofNat c]⟩] w fun e w' =>
    e = .returned (.tuple #[.string (cutS s (UInt8.ofNat c)).1, .string (cutS s (UInt8.ofNat c)).2.1, .bool (cutS s (UInt8.ofNat c)).2.2]) ∧ Drew w w' := by
  refine vc_strings_Cut_ok (R := fun v w' => v = .tuple #[.string (cutS s (UInt8.ofNat c)).1, .string (cutS s (UInt8.ofNat c)).2.1, .bool (cutS s (UInt8.ofNat c)).2.2] ∧ Drew w w') ?_ (fun v w' h => ⟨by rw [h.1], h.2⟩)
  refine (cutL_spec s hs c hc w).mono ?_
  rintro e w2 ⟨rfl, hd⟩
  exact ⟨_, _, _, rfl, rfl, hd⟩
end Go.Proofs.YtcnpekohkbjnnaaGreatDoor

/- Objects: Check, Encode, Id, and Decode of what was encoded. Conditions: at most 65000 bytes. -/
set_option linter.unusedVariables false
namespace Go.Proofs.YtcnpekohkbjnnaaGreatDoor
open Go Vc HexM ShaM Go.Proofs

theorem boxO_run (w : World) (k : Int) (d : ByteArray) : (storeVar T_api_Object ⟨w.heap.size, 0, none⟩ (.agg #[.int .i64 k, .string d])).run Tryz.prog (w.alloc (.cells #[.int .i64 0, .string ⟨#[]⟩] T_api_Object)) = .ok () (w.alloc (.cells #[.int .i64 k, .string d] T_api_Object)) :=
  run_storeVar_new w T_api_Object _ _ (by kernel_rfl) rfl (by simp [Value.oneCell'])
theorem boxO_store {w : World} {g : Nat} {cs : Array Value} (h : w.heap[g]? = some (.cells cs T_api_Object (0, 0))) (hc : cs.size = 2) (k : Int) (d : ByteArray) :
    ∃ w', (storeVar T_api_Object ⟨g, 0, none⟩ (.agg #[.int .i64 k, .string d])).run Tryz.prog w = .ok () w' ∧ w'.heap[g]? = some (.cells #[.int .i64 k, .string d] T_api_Object (0, 0)) ∧ Fr (· = g) w w' :=
  ⟨_, run_storeVar_row (P := Tryz.prog) w g T_api_Object T_api_Object _ #[.int .i64 k, .string d] h (by kernel_rfl) (by rw [hc]; rfl) (by simp [Value.oneCell']), setRow_heap w g _ #[.int .i64 k, .string d] T_api_Object (0, 0) h, setRow_fr (· = g) w g _ rfl⟩
theorem boxO_load {w : World} {g : Nat} {k : Int} {d : ByteArray} (h : w.heap[g]? = some (.cells #[.int .i64 k, .string d] T_api_Object (0, 0))) : (loadVar T_api_Object ⟨g, 0, none⟩).run Tryz.prog w = .ok (.agg #[.int .i64 k, .string d]) w :=
  load_agg (vs := [.int .i64 k, .string d]) (agg_of (by kernel_rfl)) (by kernel_rfl) fun k v hv => by rw [add_lit, Nat.zero_add, cell_blk h]; simpa using hv
theorem ocheck_spec (k : Int) (d : ByteArray) (hd : d.size ≤ 65000) (w : World) : Calls Tryz.prog F_object_Check #[.agg #[.int .i64 k, .string d]] w fun e w' => e = .returned (.int .i64 (if kname k = ⟨#[]⟩ then 10 else 0)) ∧ Fr (fun _ => False) w w' := by
  refine vc_object_Check_ok (R := fun v w' => v = .int .i64 (if kname k = ⟨#[]⟩ then 10 else 0) ∧ Fr (fun _ => False) w w') ?_ (fun v w' h => ⟨by rw [h.1], h.2⟩)
  intro w1 h1
  have hf1 : Fr (fun _ => False) w w1 := by rw [h1]; exact .alloc _ _ _
  have hb : w1.heap[w.heap.size]? = some (.cells #[.int .i64 k, .string d] T_api_Object (0, 0)) := by rw [h1]; exact alloc_new _ _
  clear h1
  refine ⟨k, by rw [cell_blk hb]; rfl, (oname_spec k w1).mono ?_⟩
  rintro e w4 ⟨rfl, hw⟩
  replace hw := hw.symm
  subst hw
  refine ⟨_, rfl, fun h => ?_, fun h => ⟨d, by rw [cell_blk hb]; rfl, fun h2 => by have := of_decide_eq_true h2; omega, fun _ => ?_⟩⟩
  · rw [bs_eq] at h
    rw [if_pos (of_decide_eq_true h)]
    exact ⟨rfl, hf1⟩
  · rw [bs_eq] at h
    rw [if_neg (of_decide_eq_false h)]
    exact ⟨rfl, hf1⟩
def encS (k : Int) (d : ByteArray) : ByteArray := kname k ++ ⟨#[32]⟩ ++ ⟨(dec3 d.size).toArray⟩ ++ ⟨#[0]⟩ ++ d
theorem encS_size {k : Int} (hk : isKind k) {d : ByteArray} (hd : d.size ≤ 65000) : (encS k d).size ≤ 65013 := by
  have h1 := (kname_ok hk).2.1
  have h2 := (dec_facts d.size (by omega)).2.1
  have h3 : (⟨(dec3 d.size).toArray⟩ : ByteArray).size ≤ 5 := by rw [bs_mksize]; exact h2
  unfold encS
  simp only [ByteArray.size_append]
  have h4 : (⟨#[32]⟩ : ByteArray).size = 1 := rfl
  have h5 : (⟨#[0]⟩ : ByteArray).size = 1 := rfl
  omega
theorem oencode_spec (k : Int) (d : ByteArray) (hd : d.size ≤ 65000) {w : World} (ht : Tab10 w) : Calls Tryz.prog F_object_Encode #[.agg #[.int .i64 k, .string d]] w fun e w' => ((isKind k ∧ e = .returned (.tuple #[.string (encS k d), .int .i64 0])) ∨ (¬ isKind k ∧ e = .returned (.tuple #[.string ⟨#[]⟩, .int .i64 10]))) ∧ Fr (fun _ => False) w w' := by
  refine vc_object_Encode_ok (R := fun v w' => ((isKind k ∧ v = .tuple #[.string (encS k d), .int .i64 0]) ∨ (¬ isKind k ∧ v = .tuple #[.string ⟨#[]⟩, .int .i64 10])) ∧ Fr (fun _ => False) w w') ?_ (fun v w' h => ⟨h.1.imp (fun h => ⟨h.1, by rw [h.2]⟩) (fun h => ⟨h.1, by rw [h.2]⟩), h.2⟩)
  intro w1 h1
  have hf1 : Fr (fun _ => False) w w1 := by rw [h1]; exact .alloc _ _ _
  have hb : w1.heap[w.heap.size]? = some (.cells #[.int .i64 k, .string d] T_api_Object (0, 0)) := by rw [h1]; exact alloc_new _ _
  clear h1
  refine ⟨k, d, boxO_load hb, (ocheck_spec k d (by omega) w1).mono ?_⟩
  rintro e w5 ⟨rfl, hf5⟩
  have hf5' := hf1.trans' hf5
  refine ⟨_, rfl, fun h => ?_, fun h w7 d7 => ?_⟩
  · by_cases hk : isKind k
    · rw [if_neg (kname_ok hk).1] at h; cases h
    · rw [if_pos (kname_no hk)]
      exact ⟨.inr ⟨hk, rfl⟩, hf5'⟩
  · have hk : isKind k := by
      by_cases hk : isKind k
      · exact hk
      · rw [if_pos (kname_no hk)] at h; cases h
    have hf7 := hf5'.trans' (.drew _ d7)
    have hb7 := (hf5.trans' (.drew _ d7)).keep hb (by simp)
    refine ⟨fun w' => Fr (fun _ => False) w7 w', .refl _ _, k, fun w10 h10 => by rw [cell_blk (h10.keep hb7 (by simp))]; rfl, d, fun w12 h12 => by rw [cell_blk (h12.keep hb7 (by simp))]; rfl, d, fun w14 h14 => by rw [cell_blk (h14.keep hb7 (by simp))]; rfl, (oname_spec k w7).mono ?_⟩
    rintro e w16 ⟨rfl, hw⟩
    replace hw := hw.symm
    subst hw
    obtain ⟨k1, k2, _, _⟩ := kname_ok hk
    have h32 : (ByteArray.mk (Array.mk [(32 : UInt8)])).size = 1 := rfl
    have h0 : (ByteArray.mk (Array.mk [(0 : UInt8)])).size = 1 := rfl
    refine ⟨_, rfl, .refl _ _, by omega, (itoa_spec d.size (by omega) (ht.keep hf7)).mono ?_⟩
    rintro e w19 ⟨rfl, hf19⟩
    rw [itoa_dec]
    have h3 : (⟨(dec3 d.size).toArray⟩ : ByteArray).size ≤ 5 := by rw [bs_mksize]; exact (dec_facts d.size (by omega)).2.1
    exact ⟨_, rfl, hf19, by simp only [ByteArray.size_append]; omega, by simp only [ByteArray.size_append]; omega, by simp only [ByteArray.size_append]; omega, .inl ⟨hk, rfl⟩, hf7.trans' hf19⟩
def idS (k : Int) (d : ByteArray) : ByteArray := ⟨(hexL (digest block1 start1 (encS k d).data.toList)).toArray⟩
theorem oid_spec (k : Int) (d : ByteArray) (hd : d.size ≤ 65000) {w : World} (ht : Tab10 w) : Calls Tryz.prog F_object_Id #[.agg #[.int .i64 k, .string d]] w fun e w' => ((isKind k ∧ e = .returned (.tuple #[.string (idS k d), .int .i64 0])) ∨ (¬ isKind k ∧ e = .returned (.tuple #[.string ⟨#[]⟩, .int .i64 10]))) ∧ Fr (fun _ => False) w w' := by
  refine vc_object_Id_ok (R := fun v w' => ((isKind k ∧ v = .tuple #[.string (idS k d), .int .i64 0]) ∨ (¬ isKind k ∧ v = .tuple #[.string ⟨#[]⟩, .int .i64 10])) ∧ Fr (fun _ => False) w w') ?_ (fun v w' h => ⟨h.1.imp (fun h => ⟨h.1, by rw [h.2]⟩) (fun h => ⟨h.1, by rw [h.2]⟩), h.2⟩)
  intro w1 h1
  have hf1 : Fr (fun _ => False) w w1 := by rw [h1]; exact .alloc _ _ _
  have hb : w1.heap[w.heap.size]? = some (.cells #[.int .i64 k, .string d] T_api_Object (0, 0)) := by rw [h1]; exact alloc_new _ _
  clear h1
  refine ⟨k, d, boxO_load hb, (oencode_spec k d hd (ht.keep hf1)).mono ?_⟩
  rintro e w5 ⟨⟨hk, rfl⟩ | ⟨hk, rfl⟩, hf5⟩
  · refine ⟨_, _, rfl, fun h => (by cases h), fun _ => ?_⟩
    have hes := encS_size hk hd
    refine (sum1_spec (encS k d) (by omega) w5).mono ?_
    rintro e w9 ⟨rfl, hf9⟩
    have hdl : (digest block1 start1 (encS k d).data.toList).length = 20 := dig1_len _
    refine ⟨_, rfl, (hex_spec _ (by rw [bs_mksize, hdl]; decide) w9).mono ?_⟩
    rintro e w12 ⟨rfl, hf12⟩
    rw [bs_mk]
    exact ⟨_, rfl, .inl ⟨hk, rfl⟩, (hf1.trans' hf5).trans' (hf9.trans' hf12)⟩
  · exact ⟨_, _, rfl, fun _ => ⟨.inr ⟨hk, rfl⟩, hf1.trans' hf5⟩, fun h => by cases h⟩
theorem cut_at {A B : List UInt8} {c : UInt8} (h : c ∉ A) : cutS ⟨(A ++ c :: B).toArray⟩ c = (⟨A.toArray⟩, ⟨B.toArray⟩, true) := by
  have hs : (⟨(A ++ c :: B).toArray⟩ : ByteArray).size = A.length + (B.length + 1) := by rw [bs_mksize, List.length_append, List.length_cons]
  have hget : ∀ k : Nat, (⟨(A ++ c :: B).toArray⟩ : ByteArray).data.toList[k]? = (A ++ c :: B)[k]? := fun k => by rw [bs_mk]
  have hix : Lib.indexByte (⟨(A ++ c :: B).toArray⟩ : ByteArray).data.toList c = ((A.length : Nat) : Int) := by
    refine fnd_at (by omega) ?_ fun k hk e => ?_
    · unfold byt
      rw [hget, List.getElem?_append_right (Nat.le_refl _), Nat.sub_self]; rfl
    · unfold byt at e
      rw [hget, List.getElem?_append_left hk, List.getElem?_eq_getElem hk] at e
      exact h (UInt8.toNat_inj.1 e ▸ List.getElem_mem hk)
  unfold cutS
  rw [hix, if_neg (by omega), Int.toNat_natCast]
  refine Prod.ext (bs_ext ?_) (Prod.ext (bs_ext ?_) rfl)
  · rw [bs_head, bs_mk, bs_mk, List.take_left]
  · rw [bs_tail, bs_mk, bs_mk, List.drop_append, List.drop_eq_nil_of_le (by omega), show A.length + 1 - A.length = 1 by omega]; rfl
theorem odecode_spec (k : Int) (hk : isKind k) (d : ByteArray) (hd : d.size ≤ 65000) {w : World} (ht : Tab10 w) : Calls Tryz.prog F_object_Decode #[.string (encS k d)] w fun e w' => e = .returned (.tuple #[.agg #[.int .i64 k, .string d], .int .i64 0]) ∧ Fr (fun _ => False) w w' := by
  refine vc_object_Decode_ok (R := fun v w' => v = .tuple #[.agg #[.int .i64 k, .string d], .int .i64 0] ∧ Fr (fun _ => False) w w') ?_ (fun v w' h => ⟨by rw [h.1], h.2⟩)
  intro w1 h1
  have hf1 : Fr (fun _ => False) w w1 := by rw [h1]; exact .alloc _ _ _
  have hb : w1.heap[w.heap.size]? = some (.cells #[.int .i64 0, .string ⟨#[]⟩] T_api_Object (0, 0)) := by rw [h1]; exact alloc_new _ _
  clear h1
  obtain ⟨k1, k2, k3, k4⟩ := kname_ok hk
  obtain ⟨f1, f2, f3, f4⟩ := dec_facts d.size (by omega)
  have hes := encS_size hk hd
  have hE : encS k d = ⟨(((kname k).data.toList ++ 32 :: dec3 d.size) ++ 0 :: d.data.toList).toArray⟩ := bs_ext (by unfold encS; rw [bs_mk, bs_app, bs_app, bs_app, bs_app, bs_mk]; simp)
  have c1 : cutS (encS k d) (UInt8.ofNat 0) = (⟨((kname k).data.toList ++ 32 :: dec3 d.size).toArray⟩, d, true) := by
    rw [hE, show UInt8.ofNat 0 = 0 from rfl, cut_at (by
      intro h
      rcases List.mem_append.1 h with h | h
      · exact k3 h
      · rcases List.mem_cons.1 h with h | h
        · cases h
        · exact f3 h), bs_self]
  have c2 : cutS ⟨((kname k).data.toList ++ 32 :: dec3 d.size).toArray⟩ (UInt8.ofNat 32) = (kname k, ⟨(dec3 d.size).toArray⟩, true) := by
    rw [show UInt8.ofNat 32 = 32 from rfl, cut_at k4, bs_self]
  have hH : (⟨((kname k).data.toList ++ 32 :: dec3 d.size).toArray⟩ : ByteArray).size ≤ 400 := by rw [bs_mksize, List.length_append, List.length_cons, bs_len]; omega
  have q1 := cut_spec (encS k d) (by omega) 0 (by decide) w1
  rw [c1] at q1
  dsimp only at q1
  refine q1.mono ?_
  rintro e w3 ⟨rfl, d3⟩
  have q2 := cut_spec ⟨((kname k).data.toList ++ 32 :: dec3 d.size).toArray⟩ (by omega) 32 (by decide) w3
  rw [c2] at q2
  dsimp only at q2
  refine ⟨_, _, _, rfl, q2.mono ?_⟩
  rintro e w8 ⟨rfl, d8⟩
  have hf8 : Fr (fun _ => False) w1 w8 := .drew _ (d3.trans d8)
  refine ⟨_, _, _, rfl, (onumber_spec d.size (by omega) (ht.keep (hf1.trans' hf8))).mono ?_⟩
  rintro e w13 ⟨rfl, hf13⟩
  have hf13' := hf8.trans' hf13
  refine ⟨_, _, rfl, fun h => (by cases h), fun _ => ⟨fun h => (by cases h), fun _ => ⟨fun h => (by cases h), fun _ => (okind_spec hk w13).mono ?_⟩⟩⟩
  rintro e w26 ⟨rfl, hw⟩
  replace hw := hw.symm
  subst hw
  refine ⟨_, rfl, fun h => ?_, fun _ => ⟨fun h => (by have := of_decide_eq_true h; omega), fun _ => ⟨fun h => (by have := of_decide_eq_true h; omega), fun _ => ⟨fun h => (by have := of_decide_eq_true h; omega), fun _ => (okind_spec hk w13).mono ?_⟩⟩⟩⟩
  · have := eq_of_beq h
    unfold isKind at hk; omega
  rintro e w41 ⟨rfl, hw⟩
  replace hw := hw.symm
  subst hw
  obtain ⟨w43, hr43, hb43, hf43⟩ := boxO_store (hf13'.keep hb (by simp)) rfl k d
  exact ⟨_, rfl, w43, hr43, _, _, boxO_load hb43, rfl, (hf1.trans' hf13').trans hf43 fun q hq e => by omega⟩
end Go.Proofs.YtcnpekohkbjnnaaGreatDoor

/- Plain facts on codes by their lengths. -/
set_option linter.unusedVariables false
namespace HuffM
/-- How many of the numbers of n bits the codes of at most n bits take up. -/
def fin (ls : List Nat) : Nat → Nat
  | 0 => 0
  | n + 1 => 2 * fin ls n + ls.count (n + 1)
theorem fin_nil : ∀ m, fin [] m = 0
  | 0 => rfl
  | m + 1 => by simp [fin, fin_nil m]
theorem fin_cons (x : Nat) (ls : List Nat) : ∀ m, fin (x :: ls) m = fin ls m + (if 1 ≤ x ∧ x ≤ m then 2 ^ (m - x) else 0)
  | 0 => by simp only [fin]; rw [if_neg (by omega)]
  | m + 1 => by
    simp only [fin, fin_cons x ls m, List.count_cons]
    have hc : (if (x == m + 1) = true then 1 else 0) = if x = m + 1 then 1 else 0 := by
      by_cases h : x = m + 1
      · rw [if_pos h, if_pos (by simpa using h)]
      · rw [if_neg h, if_neg (by simpa using h)]
    rw [hc]
    by_cases h1 : 1 ≤ x ∧ x ≤ m
    · have h2 : 1 ≤ x ∧ x ≤ m + 1 := by omega
      have h3 : ¬ x = m + 1 := by omega
      rw [if_pos h1, if_pos h2, if_neg h3, show m + 1 - x = (m - x) + 1 by omega, Nat.pow_succ]; omega
    · by_cases h2 : x = m + 1
      · have h3 : 1 ≤ x ∧ x ≤ m + 1 := by omega
        rw [if_neg h1, if_pos h2, if_pos h3, show m + 1 - x = 0 by omega]; omega
      · have h3 : ¬ (1 ≤ x ∧ x ≤ m + 1) := by omega
        rw [if_neg h1, if_neg h2, if_neg h3]; omega
theorem fin_double (ls : List Nat) (n : Nat) : ∀ d, 2 ^ d * fin ls n ≤ fin ls (n + d)
  | 0 => by simp
  | d + 1 => by
    have := fin_double ls n d
    rw [← Nat.add_assoc, fin, Nat.pow_succ, Nat.mul_comm (2 ^ d) 2, Nat.mul_assoc]; omega
/-- Over-full at n: over-full at every greater length. -/
theorem over_later (ls : List Nat) {n m : Nat} (h : 2 ^ n < fin ls n) (hm : n ≤ m) : 2 ^ m < fin ls m := by
  have := fin_double ls n (m - n)
  rw [show n + (m - n) = m by omega] at this
  have h2 : 2 ^ m = 2 ^ (m - n) * 2 ^ n := by rw [← Nat.pow_add]; congr 1; omega
  have h3 : 2 ^ (m - n) * 2 ^ n < 2 ^ (m - n) * fin ls n := Nat.mul_lt_mul_of_pos_left h (Nat.two_pow_pos _)
  omega
/-- The symbols whose codes have n bits. -/
def syms (ls : List Nat) (n : Nat) : List Nat := (List.range ls.length).filter (fun s => ls[s]? == some n)
/-- The symbols by length, up to n bits. -/
def sorted (ls : List Nat) : Nat → List Nat
  | 0 => []
  | n + 1 => sorted ls n ++ syms ls (n + 1)
/-- A symbol's code. -/
def code (ls : List Nat) (s : Nat) : Nat := 2 * fin ls (ls.getD s 0 - 1) + (ls.take s).count (ls.getD s 0)
theorem filter_range_get (p : Nat → Bool) : ∀ (k r s : Nat), ((List.range k).filter p)[r]? = some s → p s = true ∧ s < k ∧ ((List.range s).filter p).length = r
  | 0, r, s, h => by simp at h
  | k + 1, r, s, h => by
    rw [List.range_succ, List.filter_append] at h
    by_cases hr : r < ((List.range k).filter p).length
    · rw [List.getElem?_append_left hr] at h
      obtain ⟨h1, h2, h3⟩ := filter_range_get p k r s h
      exact ⟨h1, by omega, h3⟩
    · rw [List.getElem?_append_right (by omega)] at h
      by_cases hp : p k = true
      · rw [List.filter_cons_of_pos hp] at h
        cases hq : r - ((List.range k).filter p).length with
        | zero =>
          rw [hq] at h
          simp only [List.filter_nil, List.getElem?_cons_zero, Option.some.injEq] at h
          subst h
          exact ⟨hp, by omega, by omega⟩
        | succ q => rw [hq] at h; simp at h
      · rw [List.filter_cons_of_neg hp] at h; simp at h
theorem filter_range_count (ls : List Nat) (n : Nat) : ∀ k, k ≤ ls.length → ((List.range k).filter (fun s => ls[s]? == some n)).length = (ls.take k).count n
  | 0, _ => rfl
  | k + 1, h => by
    rw [List.range_succ, List.filter_append, List.length_append, filter_range_count ls n k (by omega), List.take_succ_eq_append_getElem (by omega), List.count_append]
    congr 1
    rw [List.filter_cons, List.getElem?_eq_getElem (by omega)]
    by_cases hx : ls[k] = n
    · simp [hx]
    · simp [hx]
theorem syms_length (ls : List Nat) (n : Nat) : (syms ls n).length = ls.count n := by
  have := filter_range_count ls n ls.length (Nat.le_refl _)
  rwa [List.take_length] at this
theorem syms_get {ls : List Nat} {n r s : Nat} (h : (syms ls n)[r]? = some s) : ls[s]? = some n ∧ (ls.take s).count n = r := by
  obtain ⟨h1, h2, h3⟩ := filter_range_get _ _ _ _ h
  have h1 : ls[s]? = some n := by simpa using h1
  exact ⟨h1, by rw [← h3, filter_range_count ls n s (by omega)]⟩
theorem syms_mem {ls : List Nat} {n s : Nat} (h : ls[s]? = some n) : s ∈ syms ls n := by
  obtain ⟨h1, h2⟩ := List.getElem?_eq_some_iff.1 h
  simp [syms, h1, h2]
theorem sorted_mem {ls : List Nat} {n s : Nat} (h : ls[s]? = some n) (h1 : 1 ≤ n) : ∀ m, n ≤ m → s ∈ sorted ls m
  | 0, hm => by omega
  | m + 1, hm => by
    simp only [sorted, List.mem_append]
    by_cases hn : n = m + 1
    · subst hn; exact .inr (syms_mem h)
    · exact .inl (sorted_mem h h1 m (by omega))
theorem countP_step (m : Nat) : ∀ l : List Nat, l.countP (fun x => decide (1 ≤ x ∧ x ≤ m + 1)) = l.countP (fun x => decide (1 ≤ x ∧ x ≤ m)) + l.count (m + 1)
  | [] => rfl
  | x :: l => by
    simp only [List.countP_cons, List.count_cons, countP_step m l]
    by_cases h1 : x = m + 1
    · subst h1
      have h4 : ¬ (m + 1 ≤ m) := by omega
      simp [h4]; omega
    · by_cases h2 : 1 ≤ x ∧ x ≤ m
      · have h3 : 1 ≤ x ∧ x ≤ m + 1 := by omega
        simp [h1, h2, h3]; omega
      · have h3 : ¬ (1 ≤ x ∧ x ≤ m + 1) := by omega
        simp [h1, h2, h3]
/-- How many symbols have a code of at most n bits. -/
theorem sorted_length (ls : List Nat) : ∀ m, (sorted ls m).length = ls.countP (fun x => decide (1 ≤ x ∧ x ≤ m))
  | 0 => by simp only [sorted, List.length_nil]; rw [eq_comm, List.countP_eq_zero]; intro x _; simp; omega
  | m + 1 => by simp only [sorted, List.length_append, sorted_length ls m, syms_length, countP_step]
theorem sorted_le (ls : List Nat) (m : Nat) : (sorted ls m).length ≤ ls.length := by rw [sorted_length]; exact List.countP_le_length
end HuffM

/- Plain facts on lists of bits, the lowest of each byte first. -/
set_option linter.unusedVariables false
namespace BitsM
open Vc
def num : List Bool → Nat
  | [] => 0
  | b :: r => b.toNat + 2 * num r
theorem num_lt : ∀ l : List Bool, num l < 2 ^ l.length
  | [] => by simp [num]
  | b :: r => by
    have h := num_lt r
    have hb : b.toNat ≤ 1 := Bool.toNat_le b
    simp only [num, List.length_cons, Nat.pow_succ]; omega
theorem num_append : ∀ l r : List Bool, num (l ++ r) = num l + 2 ^ l.length * num r
  | [], r => by simp [num]
  | b :: l, r => by
    simp only [List.cons_append, num, num_append l r, List.length_cons, Nat.pow_succ]
    rw [Nat.mul_add, ← Nat.mul_assoc, Nat.mul_comm 2 (2 ^ l.length)]; omega
theorem num_drop (l : List Bool) (k : Nat) : num (l.drop k) = num l / 2 ^ k := by
  rcases Nat.lt_or_ge l.length k with h | h
  · rw [List.drop_eq_nil_of_le (by omega)]
    have h1 := num_lt l
    have h2 : 2 ^ l.length ≤ 2 ^ k := Nat.pow_le_pow_right (by decide) (by omega)
    rw [Nat.div_eq_of_lt (by omega)]; rfl
  · have h1 := num_append (l.take k) (l.drop k)
    rw [List.take_append_drop] at h1
    have h2 := num_lt (l.take k)
    rw [List.length_take, Nat.min_eq_left h] at h1 h2
    rw [h1, Nat.add_mul_div_left _ _ (Nat.two_pow_pos k), Nat.div_eq_of_lt h2, Nat.zero_add]
theorem num_take (l : List Bool) (k : Nat) : num (l.take k) = num l % 2 ^ k := by
  rcases Nat.lt_or_ge l.length k with h | h
  · rw [List.take_of_length_le (by omega)]
    have h1 := num_lt l
    have h2 : 2 ^ l.length ≤ 2 ^ k := Nat.pow_le_pow_right (by decide) (by omega)
    rw [Nat.mod_eq_of_lt (by omega)]
  · have h1 := num_append (l.take k) (l.drop k)
    rw [List.take_append_drop] at h1
    have h2 := num_lt (l.take k)
    rw [List.length_take, Nat.min_eq_left h] at h1 h2
    rw [h1, Nat.add_mul_mod_self_left, Nat.mod_eq_of_lt h2]
/-- The lowest n bits of x. -/
def lowB : Nat → Nat → List Bool
  | 0, _ => []
  | n + 1, x => (x % 2 == 1) :: lowB n (x / 2)
theorem lowB_length : ∀ n x, (lowB n x).length = n
  | 0, _ => rfl
  | n + 1, x => by simp [lowB, lowB_length n]
theorem num_lowB : ∀ n x, num (lowB n x) = x % 2 ^ n
  | 0, x => by simp [lowB, num, Nat.mod_one]
  | n + 1, x => by
    simp only [lowB, num, num_lowB n (x / 2)]
    rw [Nat.pow_succ', Nat.mod_mul]
    have : (x % 2 == 1).toNat = x % 2 := by rcases Nat.mod_two_eq_zero_or_one x with h | h <;> simp [h]
    omega
theorem lowB_get : ∀ (n x i : Nat), i < n → (lowB n x)[i]? = some (x.testBit i)
  | n + 1, x, 0, _ => by simp [lowB, Nat.testBit_zero]; rfl
  | n + 1, x, i + 1, h => by simp only [lowB, List.getElem?_cons_succ, lowB_get n (x / 2) i (by omega), Nat.testBit_succ]
/-- The bits of a text. -/
def sbits : List UInt8 → List Bool
  | [] => []
  | c :: r => lowB 8 c.toNat ++ sbits r
theorem sbits_length : ∀ l, (sbits l).length = 8 * l.length
  | [] => rfl
  | c :: r => by simp only [sbits, List.length_append, lowB_length, sbits_length r, List.length_cons]; omega
theorem sbits_append : ∀ l r, sbits (l ++ r) = sbits l ++ sbits r
  | [], r => rfl
  | c :: l, r => by simp [sbits, sbits_append l r]
theorem sbits_drop : ∀ (l : List UInt8) (k : Nat), sbits (l.drop k) = (sbits l).drop (8 * k)
  | l, 0 => by simp
  | [], k + 1 => by simp [sbits]
  | c :: l, k + 1 => by
    simp only [List.drop_succ_cons, sbits, sbits_drop l k]
    rw [show 8 * (k + 1) = (lowB 8 c.toNat).length + 8 * k by rw [lowB_length]; omega, ← List.drop_drop, List.drop_left]
theorem num_sbits_take (s : ByteArray) : ∀ n, n ≤ s.size → num (sbits (s.data.toList.take n)) = V s n
  | 0, _ => rfl
  | n + 1, h => by
    have hlt : n < s.data.toList.length := by simp only [Array.length_toList]; exact h
    rw [List.take_succ_eq_append_getElem hlt, sbits_append, num_append, num_sbits_take s n (by omega), sbits_length, List.length_take, Nat.min_eq_left (by omega)]
    have hb : byt s n = (s.data.toList[n]).toNat := by unfold byt; rw [List.getElem?_eq_getElem hlt]; rfl
    simp only [V, sbits, List.append_nil, num_lowB, hb]
    have := (s.data.toList[n]).toNat_lt
    rw [Nat.mod_eq_of_lt (by omega), Nat.mul_comm]
theorem num_sbits (s : ByteArray) : num (sbits s.data.toList) = V s s.size := by
  have := num_sbits_take s s.size (Nat.le_refl _)
  rwa [List.take_of_length_le (by simp)] at this
/-- The next k bits by the list. -/
theorem nbits_list (s : ByteArray) (pos k : Nat) : nbits s pos k = num (((sbits s.data.toList).drop pos).take k) := by
  rw [num_take, num_drop, num_sbits]; rfl
end BitsM

/- Plain facts on codes: bits with the highest first, no code begins another one, what reading comes to. -/
set_option linter.unusedVariables false
namespace HuffM
open BitsM
/-- The number of some bits, the highest first. -/
def hv (l : List Bool) : Nat := num l.reverse
theorem hv_snoc (l : List Bool) (b : Bool) : hv (l ++ [b]) = 2 * hv l + b.toNat := by
  simp only [hv, List.reverse_append, List.reverse_cons, List.reverse_nil, List.nil_append, List.singleton_append, num]; omega
theorem hv_lt (l : List Bool) : hv l < 2 ^ l.length := by have := num_lt l.reverse; rwa [List.length_reverse] at this
theorem hv_take (l : List Bool) {m n : Nat} (hm : m ≤ n) (hn : n ≤ l.length) : hv (l.take m) = hv (l.take n) / 2 ^ (n - m) := by
  have h1 : l.take m = (l.take n).take m := by rw [List.take_take, Nat.min_eq_left hm]
  rw [h1, hv, hv, List.reverse_take, List.length_take, Nat.min_eq_left hn, num_drop]
/-- A symbol's code, bit by bit, the highest first. -/
def cbits (ls : List Nat) (s : Nat) : List Bool := (lowB (ls.getD s 0) (code ls s)).reverse
theorem cbits_length (ls : List Nat) (s : Nat) : (cbits ls s).length = ls.getD s 0 := by simp [cbits, lowB_length]
theorem getD_of {ls : List Nat} {s n : Nat} (h : ls[s]? = some n) : ls.getD s 0 = n := by simp [h]
theorem count_take_lt {ls : List Nat} {s n : Nat} (h : ls[s]? = some n) : (ls.take s).count n < ls.count n := by
  obtain ⟨h1, h2⟩ := List.getElem?_eq_some_iff.1 h
  conv => rhs; rw [← List.take_append_drop s ls]
  rw [List.count_append, List.drop_eq_getElem_cons h1, h2]
  simp
theorem count_take_mono (ls : List Nat) (n : Nat) {s x : Nat} (h : s ≤ x) : (ls.take s).count n ≤ (ls.take x).count n := by
  have : ls.take s = (ls.take x).take s := by rw [List.take_take, Nat.min_eq_left h]
  rw [this]
  exact (List.take_sublist s (ls.take x)).count_le n
theorem count_take_step {ls : List Nat} {s n x : Nat} (h : ls[s]? = some n) (hx : s < x) : (ls.take s).count n < (ls.take x).count n := by
  have h1 := count_take_mono ls n (show s + 1 ≤ x by omega)
  obtain ⟨h2, h3⟩ := List.getElem?_eq_some_iff.1 h
  rw [List.take_succ_eq_append_getElem h2, List.count_append, h3] at h1
  simp at h1; omega
theorem code_lt {ls : List Nat} {s n : Nat} (h : ls[s]? = some n) (h1 : 1 ≤ n) : code ls s < fin ls n := by
  obtain ⟨m, rfl⟩ : ∃ m, n = m + 1 := ⟨n - 1, by omega⟩
  have := count_take_lt h
  rw [code, getD_of h, fin, Nat.add_sub_cancel]; omega
theorem code_ge {ls : List Nat} {s n : Nat} (h : ls[s]? = some n) : 2 * fin ls (n - 1) ≤ code ls s := by
  rw [code, getD_of h]; omega
/-- The codes of greater length stand above. -/
theorem code_above {ls : List Nat} {s n m : Nat} (h : ls[s]? = some n) (h1 : m < n) : fin ls m ≤ code ls s / 2 ^ (n - m) := by
  rw [Nat.le_div_iff_mul_le (Nat.two_pow_pos _)]
  have h2 := fin_double ls m (n - 1 - m)
  rw [show m + (n - 1 - m) = n - 1 by omega] at h2
  have h3 := code_ge h
  have h4 : 2 ^ (n - m) = 2 * 2 ^ (n - 1 - m) := by rw [← Nat.pow_succ']; congr 1; omega
  rw [h4, Nat.mul_comm, Nat.mul_assoc]; omega
/-- Not over-full. -/
def Fits (ls : List Nat) : Prop := fin ls 15 ≤ 32768 ∧ ∀ n ∈ ls, n ≤ 15
theorem Fits.le {ls : List Nat} (h : Fits ls) {n : Nat} (hn : n ≤ 15) : fin ls n ≤ 2 ^ n := by
  rcases Nat.lt_or_ge (2 ^ n) (fin ls n) with h1 | h1
  · have := over_later ls h1 hn
    have := h.1
    omega
  · exact h1
theorem Fits.mem {ls : List Nat} (h : Fits ls) {s n : Nat} (hs : ls[s]? = some n) : n ≤ 15 := h.2 n (List.mem_of_getElem? hs)
theorem hv_cbits {ls : List Nat} (hf : Fits ls) {s n : Nat} (h : ls[s]? = some n) (h1 : 1 ≤ n) : hv (cbits ls s) = code ls s := by
  rw [cbits, hv, List.reverse_reverse, num_lowB, getD_of h]
  have := code_lt h h1
  have := hf.le (hf.mem h)
  exact Nat.mod_eq_of_lt (by omega)
/-- The symbol s, of n bits, stands at the front of b. -/
def At (ls : List Nat) (b : List Bool) (s n : Nat) : Prop := ls[s]? = some n ∧ 1 ≤ n ∧ n ≤ b.length ∧ hv (b.take n) = code ls s
theorem At.one {ls : List Nat} {b : List Bool} {s n x m : Nat} (h : At ls b s n) (h' : At ls b x m) : s = x ∧ n = m := by
  have key : ∀ {s n x m}, At ls b s n → At ls b x m → ¬ m < n := by
    intro s n x m h h' hlt
    have h1 := hv_take b (Nat.le_of_lt hlt) h.2.2.1
    rw [h.2.2.2, h'.2.2.2] at h1
    have h2 := code_above h.1 hlt
    have h3 := code_lt h'.1 h'.2.1
    omega
  have hn : n = m := by have := key h h'; have := key h' h; omega
  subst hn
  refine ⟨?_, rfl⟩
  have h1 : code ls s = code ls x := h.2.2.2.symm.trans h'.2.2.2
  rw [code, code, getD_of h.1, getD_of h'.1] at h1
  rcases Nat.lt_trichotomy s x with h2 | h2 | h2
  · have := count_take_step h.1 h2; omega
  · exact h2
  · have := count_take_step h'.1 h2; omega
/-- The place of a number among the symbols of n bits. -/
theorem syms_code {ls : List Nat} {n k s : Nat} (h : (syms ls n)[k]? = some s) : ls[s]? = some n ∧ code ls s = 2 * fin ls (n - 1) + k := by
  obtain ⟨h1, h2⟩ := syms_get h
  exact ⟨h1, by rw [code, getD_of h1, h2]⟩
theorem sorted_get {ls : List Nat} {n k s : Nat} (hn : 1 ≤ n) (h : (syms ls n)[k]? = some s) : ∀ d, (sorted ls (n + d))[(sorted ls (n - 1)).length + k]? = some s
  | 0 => by
    obtain ⟨m, rfl⟩ : ∃ m, n = m + 1 := ⟨n - 1, by omega⟩
    rw [Nat.add_zero, Nat.add_sub_cancel, sorted, List.getElem?_append_right (by omega), Nat.add_sub_cancel_left]
    exact h
  | d + 1 => by
    have h1 := sorted_get hn h d
    rw [← Nat.add_assoc, sorted, List.getElem?_append_left (List.getElem?_eq_some_iff.1 h1).1]
    exact h1
/-- A row without a gap. -/
def Full (ls : List Nat) : Prop := fin ls 15 = 32768
theorem full_later {ls : List Nat} (hf : Full ls) {n : Nat} (hn : n ≤ 15) (h : ∀ x ∈ ls, x ≤ n) : fin ls n = 2 ^ n := by
  have key : ∀ d, fin ls (n + d) = 2 ^ d * fin ls n := by
    intro d
    induction d with
    | zero => simp
    | succ d ih =>
      have : ls.count (n + d + 1) = 0 := List.count_eq_zero.2 fun hm => by have := h _ hm; omega
      rw [← Nat.add_assoc, fin, ih, this, Nat.pow_succ]
      rw [Nat.mul_comm (2 ^ d) 2, Nat.mul_assoc]; omega
  have h1 := key (15 - n)
  rw [show n + (15 - n) = 15 by omega, hf] at h1
  have h2 : (32768 : Nat) = 2 ^ (15 - n) * 2 ^ n := by rw [← Nat.pow_add, show 15 - n + n = 15 by omega]
  rw [h2] at h1
  exact (Nat.eq_of_mul_eq_mul_left (Nat.two_pow_pos _) h1).symm
/-- A number that is not below the codes of at most n bits, but below those of at most n + d bits if it goes on with noughts, goes on to a longer one's code. -/
theorem ext_at {ls : List Nat} {n x : Nat} (h : fin ls n ≤ x) : ∀ d, x * 2 ^ d < fin ls (n + d) → ∃ s m, ls[s]? = some m ∧ n < m ∧ m ≤ n + d ∧ code ls s / 2 ^ (m - n) = x
  | 0, h1 => by simp only [Nat.pow_zero, Nat.mul_one, Nat.add_zero] at h1; omega
  | d + 1, h1 => by
    by_cases h2 : x * 2 ^ d < fin ls (n + d)
    · obtain ⟨s, m, a, b, c, e⟩ := ext_at h d h2
      exact ⟨s, m, a, b, by omega, e⟩
    · have e2 : fin ls (n + (d + 1)) = 2 * fin ls (n + d) + ls.count (n + d + 1) := rfl
      have e3 : x * 2 ^ (d + 1) = 2 * (x * 2 ^ d) := by rw [Nat.pow_succ, Nat.mul_comm (2 ^ d) 2, ← Nat.mul_assoc, Nat.mul_comm x 2, Nat.mul_assoc]
      have hk : 2 * (x * 2 ^ d) - 2 * fin ls (n + d) < (syms ls (n + d + 1)).length := by rw [syms_length]; omega
      obtain ⟨s, hs⟩ : ∃ s, (syms ls (n + d + 1))[2 * (x * 2 ^ d) - 2 * fin ls (n + d)]? = some s := ⟨_, List.getElem?_eq_getElem hk⟩
      obtain ⟨h3, h4⟩ := syms_code hs
      refine ⟨s, _, h3, by omega, by omega, ?_⟩
      rw [h4, Nat.add_sub_cancel, show n + d + 1 - n = d + 1 by omega]
      have e5 : 2 * fin ls (n + d) + (2 * (x * 2 ^ d) - 2 * fin ls (n + d)) = x * 2 ^ (d + 1) := by omega
      rw [e5, Nat.mul_div_cancel _ (Nat.two_pow_pos _)]
theorem full_ext {ls : List Nat} (hf : Full ls) {n x : Nat} (hn : n ≤ 15) (h : fin ls n ≤ x) (hx : x < 2 ^ n) : ∃ s m, ls[s]? = some m ∧ n < m ∧ m ≤ 15 ∧ code ls s / 2 ^ (m - n) = x := by
  have h1 := ext_at h (15 - n) (by
    rw [show n + (15 - n) = 15 by omega, hf, show (32768 : Nat) = 2 ^ n * 2 ^ (15 - n) by rw [← Nat.pow_add, show n + (15 - n) = 15 by omega]]
    exact Nat.mul_lt_mul_of_pos_right hx (Nat.two_pow_pos _))
  rwa [show n + (15 - n) = 15 by omega] at h1
end HuffM

/- Formulas of 9 Go functions of this seat (written by a program of the author's, vcgen.py), and that each is enough for the call. No condition. -/
set_option linter.unusedVariables false
namespace Go.Proofs.YtcnpekohkbjnnaaGreatDoor
open Go Vc Go.Proofs
set_option maxRecDepth 100000
/-- (*bitin.Reader).fill -/
def vc_bitin_Reader_fill (x0 : Nat) (x1 : Int) (w : World) (R : Value → World → Prop) : Prop :=
  ∃ I1 : World → Prop, ∃ I2 : World → Nat, (I1 w ∧
   ∀ w3 : World,
   (I1 w3 →
     ∃ n4 : Int, (World.cell? w3 (Addr.mk x0 3 none) = some (Value.int IntKind.i64 n4) ∧
      (((decide (n4 < x1) = true →
         ∃ n5 : Int, (World.cell? w3 (Addr.mk x0 1 none) = some (Value.int IntKind.i64 n5) ∧
          ∃ s6 : ByteArray, (World.cell? w3 (Addr.mk x0 0 none) = some (Value.string s6) ∧
           ∀ w7 : World,
           (Drew w3 w7 →
             (((decide (n5 < (↑(ByteArray.size s6) : Int)) = true →
                ∀ w8 : World,
                (Drew w7 w8 →
                  ∃ n9 : Int, (World.cell? w8 (Addr.mk x0 2 none) = some (Value.int IntKind.u64 n9) ∧
                   ∃ s10 : ByteArray, (World.cell? w8 (Addr.mk x0 0 none) = some (Value.string s10) ∧
                    ∃ n11 : Int, (World.cell? w8 (Addr.mk x0 1 none) = some (Value.int IntKind.i64 n11) ∧
                     ((0 ≤ n11 ∧
                       n11 < (↑(ByteArray.size s10) : Int)) ∧
                      ∃ n12 : Int, (World.cell? w8 (Addr.mk x0 3 none) = some (Value.int IntKind.i64 n12) ∧
                       (0 ≤ n12 ∧
                        (Wr w8 (Addr.mk x0 2 none) ∧
                         ∀ w13 : World,
                         (w13 = World.setCell w8 (Addr.mk x0 2 none) (Value.int IntKind.u64 (IntKind.wrap IntKind.u64 (↑(BitVec.toNat (BitVec.ofInt 64 n9 ||| BitVec.ofInt 64 (IntKind.wrap IntKind.u64 (IntKind.wrap IntKind.u64 (byteAt s10 n11) * 2 ^ min (Int.toNat n12) 64)))) : Int))) →
                           ∃ n14 : Int, (World.cell? w13 (Addr.mk x0 1 none) = some (Value.int IntKind.i64 n14) ∧
                            (Wr w13 (Addr.mk x0 1 none) ∧
                             ∀ w15 : World,
                             (w15 = World.setCell w13 (Addr.mk x0 1 none) (Value.int IntKind.i64 (IntKind.wrap IntKind.i64 (n14 + 1))) →
                               ∃ n16 : Int, (World.cell? w15 (Addr.mk x0 3 none) = some (Value.int IntKind.i64 n16) ∧
                                (Wr w15 (Addr.mk x0 3 none) ∧
                                 ∀ w17 : World,
                                 (w17 = World.setCell w15 (Addr.mk x0 3 none) (Value.int IntKind.i64 (IntKind.wrap IntKind.i64 (n16 + 8))) →
                                   (I1 w17 ∧
                                    I2 w17 < I2 w3)))))))))))))))))) ∧
              (decide (n5 < (↑(ByteArray.size s6) : Int)) = false →
                R (Value.tuple (Array.mk [])) w7))))))) ∧
       (decide (n4 < x1) = false →
         ∀ w18 : World,
         (Drew w3 w18 →
           R (Value.tuple (Array.mk [])) w18))))))
theorem vc_bitin_Reader_fill_ok {x0 : Nat} {x1 : Int} {w : World} {R : Value → World → Prop} {R' : Ending → World → Prop} (h : vc_bitin_Reader_fill x0 x1 w R) (hR : ∀ v w', R v w' → R' (.returned v) w') :
    Calls Tryz.prog 162 #[.pointer (some ⟨x0, 0, none⟩), .int .i64 x1] w R' :=
  calls_of_body (vs := [(.pointer (some ⟨x0, 0, none⟩), true), (.int .i64 x1, false)]) (ty := ty) (ann := ⟨[], [(0, [])], [(0, .quiet), (1, .tail 22)], []⟩) (c := Tryz.f162.body.getD .skip) (by kernel_rfl) Tryz.func162 (by kernel_rfl) (by kernel_rfl) (Eq.mp (by kernel_rfl) h) hR
/-- (*bitin.Reader).Left -/
def vc_bitin_Reader_Left (x0 : Nat) (w : World) (R : Value → World → Prop) : Prop :=
  ∃ s1 : ByteArray, (World.cell? w (Addr.mk x0 0 none) = some (Value.string s1) ∧
   ∃ n2 : Int, (World.cell? w (Addr.mk x0 1 none) = some (Value.int IntKind.i64 n2) ∧
    ∃ n3 : Int, (World.cell? w (Addr.mk x0 3 none) = some (Value.int IntKind.i64 n3) ∧
     ∀ w4 : World,
     (Drew w w4 →
       R (Value.int IntKind.i64 (IntKind.wrap IntKind.i64 (IntKind.wrap IntKind.i64 (8 * IntKind.wrap IntKind.i64 ((↑(ByteArray.size s1) : Int) - n2)) + n3))) w4))))
theorem vc_bitin_Reader_Left_ok {x0 : Nat} {w : World} {R : Value → World → Prop} {R' : Ending → World → Prop} (h : vc_bitin_Reader_Left x0 w R) (hR : ∀ v w', R v w' → R' (.returned v) w') :
    Calls Tryz.prog 153 #[.pointer (some ⟨x0, 0, none⟩)] w R' :=
  calls_of_body (vs := [(.pointer (some ⟨x0, 0, none⟩), true)]) (ty := ty) (ann := ⟨[], [], [(1, .quiet)], []⟩) (c := Tryz.f153.body.getD .skip) (by kernel_rfl) Tryz.func153 (by kernel_rfl) (by kernel_rfl) (Eq.mp (by kernel_rfl) h) hR
/-- (*bitin.Reader).Peek -/
def vc_bitin_Reader_Peek (x0 : Nat) (x1 : Int) (w : World) (R : Value → World → Prop) : Prop :=
  (((decide (x1 < 0) = true →
     R (Value.tuple (Array.mk [Value.int IntKind.u32 0, Value.int IntKind.i64 0])) w)) ∧
   (decide (x1 < 0) = false →
     (((decide (x1 > 32) = true →
        R (Value.tuple (Array.mk [Value.int IntKind.u32 0, Value.int IntKind.i64 0])) w)) ∧
      (decide (x1 > 32) = false →
        Calls Tryz.prog (162 : Nat) (Array.mk [Value.pointer (some (Addr.mk x0 0 none)), Value.int IntKind.i64 x1]) (w) (fun e1 w2 =>
          (e1 = Ending.returned (Value.tuple (Array.mk [])) ∧
           ∃ n3 : Int, (World.cell? w2 (Addr.mk x0 2 none) = some (Value.int IntKind.u64 n3) ∧
            (0 ≤ x1 ∧
             ∃ n4 : Int, (World.cell? w2 (Addr.mk x0 3 none) = some (Value.int IntKind.i64 n4) ∧
              ∀ w5 : World,
              (Drew w2 w5 →
                (R (Value.tuple (Array.mk [Value.int IntKind.u32 (IntKind.wrap IntKind.u32 (IntKind.wrap IntKind.u64 (↑(BitVec.toNat (BitVec.ofInt 64 n3 &&& BitVec.ofInt 64 (IntKind.wrap IntKind.u64 (IntKind.wrap IntKind.u64 (1 * 2 ^ min (Int.toNat x1) 64) - 1)))) : Int))), Value.int IntKind.i64 (if n4 < x1 then n4 else x1)])) w5)))))))))))
theorem vc_bitin_Reader_Peek_ok {x0 : Nat} {x1 : Int} {w : World} {R : Value → World → Prop} {R' : Ending → World → Prop} (h : vc_bitin_Reader_Peek x0 x1 w R) (hR : ∀ v w', R v w' → R' (.returned v) w') :
    Calls Tryz.prog 149 #[.pointer (some ⟨x0, 0, none⟩), .int .i64 x1] w R' :=
  calls_of_body (vs := [(.pointer (some ⟨x0, 0, none⟩), true), (.int .i64 x1, false)]) (ty := ty) (ann := ⟨[], [], [(4, .quiet)], []⟩) (c := Tryz.f149.body.getD .skip) (by kernel_rfl) Tryz.func149 (by kernel_rfl) (by kernel_rfl) (Eq.mp (by kernel_rfl) h) hR
/-- bitin.New -/
def vc_bitin_New (x0 : ByteArray) (x1 : Int) (w : World) (R : Value → World → Prop) : Prop :=
  ∀ w1 : World,
  ((w1 = World.alloc w (Obj.cells (Array.mk [Value.string x0, Value.int IntKind.i64 (if (if (↑(ByteArray.size x0) : Int) < x1 then (↑(ByteArray.size x0) : Int) else x1) > 0 then if (↑(ByteArray.size x0) : Int) < x1 then (↑(ByteArray.size x0) : Int) else x1 else 0), Value.int IntKind.u64 0, Value.int IntKind.i64 0, Value.int IntKind.i64 (if (if (↑(ByteArray.size x0) : Int) < x1 then (↑(ByteArray.size x0) : Int) else x1) > 0 then if (↑(ByteArray.size x0) : Int) < x1 then (↑(ByteArray.size x0) : Int) else x1 else 0)]) 186)) →
    R (Value.pointer (some (Addr.mk (Array.size (World.heap w)) 0 none))) w1)
theorem vc_bitin_New_ok {x0 : ByteArray} {x1 : Int} {w : World} {R : Value → World → Prop} {R' : Ending → World → Prop} (h : vc_bitin_New x0 x1 w R) (hR : ∀ v w', R v w' → R' (.returned v) w') :
    Calls Tryz.prog 122 #[.string x0, .int .i64 x1] w R' :=
  calls_of_body (vs := [(.string x0, false), (.int .i64 x1, false)]) (ty := ty) (ann := ⟨[], [], [], []⟩) (c := Tryz.f122.body.getD .skip) (by kernel_rfl) Tryz.func122 (by kernel_rfl) (by kernel_rfl) (Eq.mp (by kernel_rfl) h) hR
/-- (*bitin.Reader).Bits -/
def vc_bitin_Reader_Bits (x0 : Nat) (x1 : Int) (w : World) (R : Value → World → Prop) : Prop :=
  Calls Tryz.prog (149 : Nat) (Array.mk [Value.pointer (some (Addr.mk x0 0 none)), Value.int IntKind.i64 x1]) (w) (fun e1 w2 =>
    ∃ n3 : Int, ∃ n4 : Int, (e1 = Ending.returned (Value.tuple (Array.mk [Value.int IntKind.u32 n3, Value.int IntKind.i64 n4])) ∧
     Calls Tryz.prog (150 : Nat) (Array.mk [Value.pointer (some (Addr.mk x0 0 none)), Value.int IntKind.i64 x1]) (w2) (fun e5 w6 =>
       ∃ b7 : Bool, (e5 = Ending.returned (Value.bool b7) ∧
        ((((!b7) = true →
           R (Value.tuple (Array.mk [Value.int IntKind.u32 0, Value.bool false])) w6)) ∧
         ((!b7) = false →
           R (Value.tuple (Array.mk [Value.int IntKind.u32 n3, Value.bool true])) w6))))))
theorem vc_bitin_Reader_Bits_ok {x0 : Nat} {x1 : Int} {w : World} {R : Value → World → Prop} {R' : Ending → World → Prop} (h : vc_bitin_Reader_Bits x0 x1 w R) (hR : ∀ v w', R v w' → R' (.returned v) w') :
    Calls Tryz.prog 137 #[.pointer (some ⟨x0, 0, none⟩), .int .i64 x1] w R' :=
  calls_of_body (vs := [(.pointer (some ⟨x0, 0, none⟩), true), (.int .i64 x1, false)]) (ty := ty) (ann := ⟨[], [], [], []⟩) (c := Tryz.f137.body.getD .skip) (by kernel_rfl) Tryz.func137 (by kernel_rfl) (by kernel_rfl) (Eq.mp (by kernel_rfl) h) hR
/-- (*bitin.Reader).Skip -/
def vc_bitin_Reader_Skip (x0 : Nat) (x1 : Int) (w : World) (R : Value → World → Prop) : Prop :=
  (((decide (x1 < 0) = true →
     R (Value.bool false) w)) ∧
   (decide (x1 < 0) = false →
     (((decide (x1 > 32) = true →
        R (Value.bool false) w)) ∧
      (decide (x1 > 32) = false →
        Calls Tryz.prog (162 : Nat) (Array.mk [Value.pointer (some (Addr.mk x0 0 none)), Value.int IntKind.i64 x1]) (w) (fun e1 w2 =>
          (e1 = Ending.returned (Value.tuple (Array.mk [])) ∧
           ∃ n3 : Int, (World.cell? w2 (Addr.mk x0 3 none) = some (Value.int IntKind.i64 n3) ∧
            (((decide (n3 < x1) = true →
               R (Value.bool false) w2)) ∧
             (decide (n3 < x1) = false →
               ∃ n4 : Int, (World.cell? w2 (Addr.mk x0 2 none) = some (Value.int IntKind.u64 n4) ∧
                (0 ≤ x1 ∧
                 (Wr w2 (Addr.mk x0 2 none) ∧
                  ∀ w5 : World,
                  (w5 = World.setCell w2 (Addr.mk x0 2 none) (Value.int IntKind.u64 (Int.fdiv n4 (2 ^ min (Int.toNat x1) 64))) →
                    ∃ n6 : Int, (World.cell? w5 (Addr.mk x0 3 none) = some (Value.int IntKind.i64 n6) ∧
                     (Wr w5 (Addr.mk x0 3 none) ∧
                      ∀ w7 : World,
                      (w7 = World.setCell w5 (Addr.mk x0 3 none) (Value.int IntKind.i64 (IntKind.wrap IntKind.i64 (n6 - x1))) →
                        R (Value.bool true) w7))))))))))))))))
theorem vc_bitin_Reader_Skip_ok {x0 : Nat} {x1 : Int} {w : World} {R : Value → World → Prop} {R' : Ending → World → Prop} (h : vc_bitin_Reader_Skip x0 x1 w R) (hR : ∀ v w', R v w' → R' (.returned v) w') :
    Calls Tryz.prog 150 #[.pointer (some ⟨x0, 0, none⟩), .int .i64 x1] w R' :=
  calls_of_body (vs := [(.pointer (some ⟨x0, 0, none⟩), true), (.int .i64 x1, false)]) (ty := ty) (ann := ⟨[], [], [], []⟩) (c := Tryz.f150.body.getD .skip) (by kernel_rfl) Tryz.func150 (by kernel_rfl) (by kernel_rfl) (Eq.mp (by kernel_rfl) h) hR
/-- (*bitin.Reader).Used -/
def vc_bitin_Reader_Used (x0 : Nat) (w : World) (R : Value → World → Prop) : Prop :=
  ∃ n1 : Int, (World.cell? w (Addr.mk x0 1 none) = some (Value.int IntKind.i64 n1) ∧
   ∃ n2 : Int, (World.cell? w (Addr.mk x0 3 none) = some (Value.int IntKind.i64 n2) ∧
    ((8 : Int) ≠ (0 : Int) ∧
     ∃ n3 : Int, (World.cell? w (Addr.mk x0 4 none) = some (Value.int IntKind.i64 n3) ∧
      ∀ w4 : World,
      (Drew w w4 →
        R (Value.int IntKind.i64 (IntKind.wrap IntKind.i64 (IntKind.wrap IntKind.i64 (n1 - IntKind.wrap IntKind.i64 (Int.tdiv n2 8)) - n3))) w4)))))
theorem vc_bitin_Reader_Used_ok {x0 : Nat} {w : World} {R : Value → World → Prop} {R' : Ending → World → Prop} (h : vc_bitin_Reader_Used x0 w R) (hR : ∀ v w', R v w' → R' (.returned v) w') :
    Calls Tryz.prog 124 #[.pointer (some ⟨x0, 0, none⟩)] w R' :=
  calls_of_body (vs := [(.pointer (some ⟨x0, 0, none⟩), true)]) (ty := ty) (ann := ⟨[], [], [(1, .quiet)], []⟩) (c := Tryz.f124.body.getD .skip) (by kernel_rfl) Tryz.func124 (by kernel_rfl) (by kernel_rfl) (Eq.mp (by kernel_rfl) h) hR
/-- (*bitin.Reader).Align -/
def vc_bitin_Reader_Align (x0 : Nat) (w : World) (R : Value → World → Prop) : Prop :=
  ∃ n1 : Int, (World.cell? w (Addr.mk x0 3 none) = some (Value.int IntKind.i64 n1) ∧
   ((8 : Int) ≠ (0 : Int) ∧
    ∃ n2 : Int, (World.cell? w (Addr.mk x0 2 none) = some (Value.int IntKind.u64 n2) ∧
     (0 ≤ Int.tmod n1 8 ∧
      (Wr w (Addr.mk x0 2 none) ∧
       ∀ w3 : World,
       (w3 = World.setCell w (Addr.mk x0 2 none) (Value.int IntKind.u64 (Int.fdiv n2 (2 ^ min (Int.toNat (Int.tmod n1 8)) 64))) →
         ∃ n4 : Int, (World.cell? w3 (Addr.mk x0 3 none) = some (Value.int IntKind.i64 n4) ∧
          (Wr w3 (Addr.mk x0 3 none) ∧
           ∀ w5 : World,
           (w5 = World.setCell w3 (Addr.mk x0 3 none) (Value.int IntKind.i64 (IntKind.wrap IntKind.i64 (n4 - Int.tmod n1 8))) →
             R (Value.tuple (Array.mk [])) w5)))))))))
theorem vc_bitin_Reader_Align_ok {x0 : Nat} {w : World} {R : Value → World → Prop} {R' : Ending → World → Prop} (h : vc_bitin_Reader_Align x0 w R) (hR : ∀ v w', R v w' → R' (.returned v) w') :
    Calls Tryz.prog 163 #[.pointer (some ⟨x0, 0, none⟩)] w R' :=
  calls_of_body (vs := [(.pointer (some ⟨x0, 0, none⟩), true)]) (ty := ty) (ann := ⟨[], [], [], []⟩) (c := Tryz.f163.body.getD .skip) (by kernel_rfl) Tryz.func163 (by kernel_rfl) (by kernel_rfl) (Eq.mp (by kernel_rfl) h) hR
/-- (*bitin.Reader).Bytes -/
def vc_bitin_Reader_Bytes (x0 : Nat) (x1 : Int) (w : World) (R : Value → World → Prop) : Prop :=
  Calls Tryz.prog (163 : Nat) (Array.mk [Value.pointer (some (Addr.mk x0 0 none))]) (w) (fun e1 w2 =>
    (e1 = Ending.returned (Value.tuple (Array.mk [])) ∧
     ∃ n3 : Int, (World.cell? w2 (Addr.mk x0 1 none) = some (Value.int IntKind.i64 n3) ∧
      ∃ n4 : Int, (World.cell? w2 (Addr.mk x0 3 none) = some (Value.int IntKind.i64 n4) ∧
       ((8 : Int) ≠ (0 : Int) ∧
        ∀ w5 : World,
        (Drew w2 w5 →
          (((decide (x1 < 0) = true →
             R (Value.tuple (Array.mk [Value.string (ByteArray.mk (Array.mk [])), Value.bool false])) w5)) ∧
           (decide (x1 < 0) = false →
             ∃ s6 : ByteArray, (World.cell? w5 (Addr.mk x0 0 none) = some (Value.string s6) ∧
              (((decide (x1 > IntKind.wrap IntKind.i64 ((↑(ByteArray.size s6) : Int) - IntKind.wrap IntKind.i64 (n3 - IntKind.wrap IntKind.i64 (Int.tdiv n4 8)))) = true →
                 R (Value.tuple (Array.mk [Value.string (ByteArray.mk (Array.mk [])), Value.bool false])) w5)) ∧
               (decide (x1 > IntKind.wrap IntKind.i64 ((↑(ByteArray.size s6) : Int) - IntKind.wrap IntKind.i64 (n3 - IntKind.wrap IntKind.i64 (Int.tdiv n4 8)))) = false →
                 (Wr w5 (Addr.mk x0 1 none) ∧
                  ∀ w7 : World,
                  (w7 = World.setCell w5 (Addr.mk x0 1 none) (Value.int IntKind.i64 (IntKind.wrap IntKind.i64 (IntKind.wrap IntKind.i64 (n3 - IntKind.wrap IntKind.i64 (Int.tdiv n4 8)) + x1))) →
                    (Wr w7 (Addr.mk x0 2 none) ∧
                     ∀ w8 : World,
                     (w8 = World.setCell w7 (Addr.mk x0 2 none) (Value.int IntKind.u64 0) →
                       (Wr w8 (Addr.mk x0 3 none) ∧
                        ∀ w9 : World,
                        (w9 = World.setCell w8 (Addr.mk x0 3 none) (Value.int IntKind.i64 0) →
                          ∃ s10 : ByteArray, (World.cell? w9 (Addr.mk x0 0 none) = some (Value.string s10) ∧
                           ((0 ≤ IntKind.wrap IntKind.i64 (n3 - IntKind.wrap IntKind.i64 (Int.tdiv n4 8)) ∧
                             (IntKind.wrap IntKind.i64 (n3 - IntKind.wrap IntKind.i64 (Int.tdiv n4 8)) ≤ IntKind.wrap IntKind.i64 (IntKind.wrap IntKind.i64 (n3 - IntKind.wrap IntKind.i64 (Int.tdiv n4 8)) + x1) ∧
                              IntKind.wrap IntKind.i64 (IntKind.wrap IntKind.i64 (n3 - IntKind.wrap IntKind.i64 (Int.tdiv n4 8)) + x1) ≤ (↑(ByteArray.size s10) : Int))) ∧
                            R (Value.tuple (Array.mk [Value.string (ByteArray.extract s10 (Int.toNat (IntKind.wrap IntKind.i64 (n3 - IntKind.wrap IntKind.i64 (Int.tdiv n4 8)))) (Int.toNat (IntKind.wrap IntKind.i64 (IntKind.wrap IntKind.i64 (n3 - IntKind.wrap IntKind.i64 (Int.tdiv n4 8)) + x1)))), Value.bool true])) w9)))))))))))))))))))
theorem vc_bitin_Reader_Bytes_ok {x0 : Nat} {x1 : Int} {w : World} {R : Value → World → Prop} {R' : Ending → World → Prop} (h : vc_bitin_Reader_Bytes x0 x1 w R) (hR : ∀ v w', R v w' → R' (.returned v) w') :
    Calls Tryz.prog 151 #[.pointer (some ⟨x0, 0, none⟩), .int .i64 x1] w R' :=
  calls_of_body (vs := [(.pointer (some ⟨x0, 0, none⟩), true), (.int .i64 x1, false)]) (ty := ty) (ann := ⟨[], [], [(2, .quiet)], []⟩) (c := Tryz.f151.body.getD .skip) (by kernel_rfl) Tryz.func151 (by kernel_rfl) (by kernel_rfl) (Eq.mp (by kernel_rfl) h) hR
end Go.Proofs.YtcnpekohkbjnnaaGreatDoor

/- What each method of the bit reader does, for every reader that is in order. Conditions: the text is no longer than a Go string can be, the number of bits is from 0 to 32 where it is asked. -/
set_option linter.unusedVariables false
namespace Go.Proofs.YtcnpekohkbjnnaaGreatDoor
open Go Vc BitsM Go.Proofs

/-- A reader's block. -/
abbrev RdO (s : ByteArray) (at_ pos : Nat) (from_ : Int) : Obj :=
  .cells #[.string s, .int .i64 at_, .int .u64 (held s at_ pos), .int .i64 ((8 * at_ - pos : Nat) : Int), .int .i64 from_] T_bitin_Reader
structure RdAt (w : World) (b : Nat) (s : ByteArray) (pos : Nat) (from_ : Int) (at_ : Nat) : Prop where
  lo : pos ≤ 8 * at_
  hi : 8 * at_ ≤ pos + 39
  sz : at_ ≤ s.size
  ok : s.size ≤ 140737488351232
  blk : w.heap[b]? = some (RdO s at_ pos from_)
section
variable {w w2 : World} {b : Nat} {s : ByteArray} {pos : Nat} {from_ : Int} {at_ : Nat}
theorem RdAt.c0 (h : RdAt w b s pos from_ at_) : w.cell? ⟨b, 0, none⟩ = some (.string s) := by rw [cell_blk h.blk]; rfl
theorem RdAt.c1 (h : RdAt w b s pos from_ at_) : w.cell? ⟨b, 1, none⟩ = some (.int .i64 at_) := by rw [cell_blk h.blk]; rfl
theorem RdAt.c2 (h : RdAt w b s pos from_ at_) : w.cell? ⟨b, 2, none⟩ = some (.int .u64 (held s at_ pos)) := by rw [cell_blk h.blk]; rfl
theorem RdAt.c3 (h : RdAt w b s pos from_ at_) : w.cell? ⟨b, 3, none⟩ = some (.int .i64 ((8 * at_ - pos : Nat) : Int)) := by rw [cell_blk h.blk]; rfl
theorem RdAt.c4 (h : RdAt w b s pos from_ at_) : w.cell? ⟨b, 4, none⟩ = some (.int .i64 from_) := by rw [cell_blk h.blk]; rfl
theorem RdAt.drew (h : RdAt w b s pos from_ at_) (d : Drew w w2) : RdAt w2 b s pos from_ at_ := ⟨h.lo, h.hi, h.sz, h.ok, by rw [d.heap]; exact h.blk⟩
theorem RdAt.held64 (h : RdAt w b s pos from_ at_) : held s at_ pos < 2 ^ 39 :=
  Nat.lt_of_lt_of_le (held_lt s at_ pos h.lo) (Nat.pow_le_pow_right (by decide) (by have := h.hi; omega))
theorem RdAt.keep (h : RdAt w b s pos from_ at_) {X : Nat → Prop} (hf : Fr X w w2) (hx : ¬ X b) : RdAt w2 b s pos from_ at_ := ⟨h.lo, h.hi, h.sz, h.ok, hf.keep h.blk hx⟩
end

def cellNat (w : World) (a : Addr) : Nat := match w.cell? a with
  | some (.int _ n) => n.toNat
  | _ => 0

theorem fill_or {s : ByteArray} {at_ pos : Nat} (hlo : pos ≤ 8 * at_) (hhi : 8 * at_ ≤ pos + 39) :
    IntKind.u64.wrap (↑((BitVec.ofInt 64 ((held s at_ pos : Nat) : Int) ||| BitVec.ofInt 64 (IntKind.u64.wrap (IntKind.u64.wrap ((byt s at_ : Nat) : Int) * 2 ^ min ((8 * at_ - pos : Nat) : Int).toNat 64))).toNat) : Int) = ((held s (at_ + 1) pos : Nat) : Int) := by
  have hb := byt_lt s at_
  have h1 : held s at_ pos < 2 ^ 64 := Nat.lt_of_lt_of_le (held_lt s at_ pos hlo) (Nat.pow_le_pow_right (by decide) (by omega))
  rw [wrap_u64 (x := ((byt s at_ : Nat) : Int)) (by omega) (by omega)]
  have hm : min ((8 * at_ - pos : Nat) : Int).toNat 64 = 8 * at_ - pos := by simp only [Int.toNat_natCast]; omega
  rw [hm]
  have hp : 2 ^ (8 * at_ - pos) ≤ 2 ^ 39 := Nat.pow_le_pow_right (by decide) (by omega)
  have hx : byt s at_ * 2 ^ (8 * at_ - pos) < 2 ^ 64 := by
    have : byt s at_ * 2 ^ (8 * at_ - pos) ≤ 255 * 2 ^ 39 := Nat.mul_le_mul (by omega) hp
    omega
  have hcast : ((byt s at_ : Nat) : Int) * 2 ^ (8 * at_ - pos) = ((byt s at_ * 2 ^ (8 * at_ - pos) : Nat) : Int) := by push_cast; rfl
  rw [hcast, wrap_u64 (x := ((byt s at_ * 2 ^ (8 * at_ - pos) : Nat) : Int)) (by omega) (by omega), or_nat 64 _ _ h1 hx, held_or s at_ pos hlo]
  have := held_lt s (at_ + 1) pos (by omega)
  have h3 : 2 ^ (8 * (at_ + 1) - pos) ≤ 2 ^ 47 := Nat.pow_le_pow_right (by decide) (by omega)
  exact wrap_u64 (by omega) (by omega)

theorem fill_spec {b : Nat} {s : ByteArray} {pos : Nat} {from_ : Int} {at_ : Nat} {w : World} (h : RdAt w b s pos from_ at_) {n : Int} (h0 : 0 ≤ n) (hn : n ≤ 32) :
    Calls Tryz.prog F_bitin_Reader_fill #[.pointer (some ⟨b, 0, none⟩), .int .i64 n] w fun e w' => e = .returned (.tuple #[]) ∧
      ∃ at1, RdAt w' b s pos from_ at1 ∧ (n ≤ ((8 * at1 - pos : Nat) : Int) ∨ at1 = s.size) ∧ Fr (· = b) w w' := by
  refine vc_bitin_Reader_fill_ok (R := fun v w' => v = .tuple #[] ∧ ∃ at1, RdAt w' b s pos from_ at1 ∧ (n ≤ ((8 * at1 - pos : Nat) : Int) ∨ at1 = s.size) ∧ Fr (· = b) w w') ?_ (fun v w' h => ⟨by rw [h.1], h.2⟩)
  refine ⟨fun wr => ∃ at1, RdAt wr b s pos from_ at1 ∧ Fr (· = b) w wr, fun wr => s.size - cellNat wr ⟨b, 1, none⟩, ⟨at_, h, .refl _ _⟩, ?_⟩
  rintro w3 ⟨at1, h1, hf⟩
  refine ⟨_, h1.c3, fun hlt => ⟨_, h1.c1, _, h1.c0, fun w7 d7 => ⟨fun hl2 w8 d8 => ?_, fun hge => ?_⟩⟩, fun hge w18 d => ⟨rfl, at1, h1.drew d, .inl (by simpa using hge), hf.trans' (.drew _ d)⟩⟩
  · have h8 := (h1.drew d7).drew d8
    have hlt' : ((8 * at1 - pos : Nat) : Int) < n := of_decide_eq_true hlt
    have hl2' : at1 < s.size := by have := of_decide_eq_true hl2; omega
    refine ⟨_, h8.c2, _, h8.c0, _, h8.c1, ⟨by omega, by omega⟩, _, h8.c3, by omega, wr_blk h8.blk (by simp), ?_⟩
    rintro w13 rfl
    have e1 := set_blk h8.blk 2 (.int .u64 ((held s (at1 + 1) pos : Nat) : Int))
    rw [byteAt_nat, fill_or (by have := h1.lo; omega) (by have := h1.lo; omega)]
    refine ⟨((at1 : Nat) : Int), by rw [cell_blk e1]; rfl, wr_blk e1 (by simp), ?_⟩
    rintro w15 rfl
    have hat : IntKind.i64.wrap (((at1 : Nat) : Int) + 1) = ((at1 + 1 : Nat) : Int) := by rw [wrap_i64 (by have := h1.ok; omega) (by have := h1.ok; omega)]; omega
    rw [hat]
    have e2 := set_blk e1 1 (.int .i64 ((at1 + 1 : Nat) : Int))
    refine ⟨((8 * at1 - pos : Nat) : Int), by rw [cell_blk e2]; rfl, wr_blk e2 (by simp), ?_⟩
    rintro w17 rfl
    have hh : IntKind.i64.wrap (((8 * at1 - pos : Nat) : Int) + 8) = ((8 * (at1 + 1) - pos : Nat) : Int) := by
      have := h1.lo; rw [wrap_i64 (by omega) (by omega)]; omega
    rw [hh]
    have e3 := set_blk e2 3 (.int .i64 ((8 * (at1 + 1) - pos : Nat) : Int))
    have hrd : RdAt _ b s pos from_ (at1 + 1) := ⟨by have := h1.lo; omega, by have := h1.lo; omega, by omega, h1.ok, e3⟩
    refine ⟨⟨at1 + 1, hrd, ?_⟩, ?_⟩
    · exact ((((hf.trans' (.drew _ d7)).trans' (.drew _ d8)).trans' (.set _ _ _ rfl)).trans' (.set _ _ _ rfl)).trans' (.set _ _ _ rfl)
    · have c1 := hrd.c1
      have c1' := h1.c1
      simp only [cellNat, c1, c1', Int.toNat_natCast]
      omega
  · have : ¬ at1 < s.size := by have := of_decide_eq_false hge; omega
    exact ⟨rfl, at1, h1.drew d7, .inr (by have := h1.sz; omega), hf.trans' (.drew _ d7)⟩

/-- A reader in order, at bit pos. -/
def Rd (w : World) (b : Nat) (s : ByteArray) (pos : Nat) (from_ : Int) : Prop := ∃ at_, RdAt w b s pos from_ at_
theorem Rd.drew {w w2 : World} {b : Nat} {s : ByteArray} {pos : Nat} {from_ : Int} (h : Rd w b s pos from_) (d : Drew w w2) : Rd w2 b s pos from_ := h.imp fun _ h => h.drew d
theorem Rd.keep {w w2 : World} {b : Nat} {s : ByteArray} {pos : Nat} {from_ : Int} (h : Rd w b s pos from_) {X : Nat → Prop} (hf : Fr X w w2) (hx : ¬ X b) : Rd w2 b s pos from_ := h.imp fun _ h => h.keep hf hx
theorem Rd.pos_le {w : World} {b : Nat} {s : ByteArray} {pos : Nat} {from_ : Int} (h : Rd w b s pos from_) : pos ≤ 8 * s.size := by
  obtain ⟨a, h⟩ := h; have := h.lo; have := h.sz; omega
theorem Rd.lt {w : World} {b : Nat} {s : ByteArray} {pos : Nat} {from_ : Int} (h : Rd w b s pos from_) : b < w.heap.size := by obtain ⟨a, h⟩ := h; exact lt_blk h.blk

/-- How many bits are left. -/
def left (s : ByteArray) (pos : Nat) : Nat := 8 * s.size - pos

theorem left_spec {b : Nat} {s : ByteArray} {pos : Nat} {from_ : Int} {w : World} (h : Rd w b s pos from_) :
    Calls Tryz.prog F_bitin_Reader_Left #[.pointer (some ⟨b, 0, none⟩)] w fun e w' => e = .returned (.int .i64 ((left s pos : Nat) : Int)) ∧ Drew w w' := by
  obtain ⟨a, h⟩ := h
  refine vc_bitin_Reader_Left_ok (R := fun v w' => v = .int .i64 ((left s pos : Nat) : Int) ∧ Drew w w') ?_ (fun v w' h => ⟨by rw [h.1], h.2⟩)
  refine ⟨_, h.c0, _, h.c1, _, h.c3, fun w1 d => ⟨?_, d⟩⟩
  have := h.lo; have := h.hi; have := h.sz; have := h.ok
  have e1 : IntKind.i64.wrap ((s.size : Int) - (a : Int)) = (s.size : Int) - (a : Int) := wrap_i64 (by omega) (by omega)
  rw [e1]
  have e2 : IntKind.i64.wrap (8 * ((s.size : Int) - (a : Int))) = 8 * ((s.size : Int) - (a : Int)) := wrap_i64 (by omega) (by omega)
  rw [e2, wrap_i64 (by omega) (by omega)]
  unfold left
  congr 1; omega

/-- How many bytes have been begun. -/
theorem used_spec {b : Nat} {s : ByteArray} {pos : Nat} {from_ : Int} {w : World} (h : Rd w b s pos from_) (h0 : 0 ≤ from_) (h1 : from_ ≤ 140737488351232) :
    Calls Tryz.prog F_bitin_Reader_Used #[.pointer (some ⟨b, 0, none⟩)] w fun e w' => e = .returned (.int .i64 ((((pos + 7) / 8 : Nat) : Int) - from_)) ∧ Drew w w' := by
  obtain ⟨a, h⟩ := h
  refine vc_bitin_Reader_Used_ok (R := fun v w' => v = .int .i64 ((((pos + 7) / 8 : Nat) : Int) - from_) ∧ Drew w w') ?_ (fun v w' h => ⟨by rw [h.1], h.2⟩)
  refine ⟨_, h.c1, _, h.c3, by decide, _, h.c4, fun w1 d => ⟨?_, d⟩⟩
  have := h.lo; have := h.hi; have := h.sz; have := h.ok
  have e0 : Int.tdiv ((8 * a - pos : Nat) : Int) 8 = ((((8 * a - pos) / 8 : Nat)) : Int) := by
    rw [Int.tdiv_eq_ediv_of_nonneg (by omega)]; omega
  rw [e0, wrap_i64 (x := (((8 * a - pos) / 8 : Nat) : Int)) (by omega) (by omega), wrap_i64 (x := (a : Int) - _) (by omega) (by omega), wrap_i64 (by omega) (by omega)]
  congr 1; omega

theorem mask_eq (n : Nat) (h : n ≤ 32) : IntKind.u64.wrap (IntKind.u64.wrap (1 * 2 ^ min ((n : Int)).toNat 64) - 1) = ((2 ^ n - 1 : Nat) : Int) := by
  have hm : min ((n : Int)).toNat 64 = n := by omega
  have hp : 2 ^ n ≤ 2 ^ 32 := Nat.pow_le_pow_right (by decide) h
  have h1 := Nat.two_pow_pos n
  have hc : (2 : Int) ^ n = ((2 ^ n : Nat) : Int) := by push_cast; rfl
  rw [hm, Int.one_mul, hc, wrap_u64 (x := ((2 ^ n : Nat) : Int)) (by omega) (by omega), wrap_u64 (by omega) (by omega)]
  omega

/-- The next n bits: what they are, and how many there are. -/
theorem peek_spec {b : Nat} {s : ByteArray} {pos : Nat} {from_ : Int} {w : World} (h : Rd w b s pos from_) {n : Nat} (hn : n ≤ 32) :
    Calls Tryz.prog F_bitin_Reader_Peek #[.pointer (some ⟨b, 0, none⟩), .int .i64 n] w fun e w' =>
      e = .returned (.tuple #[.int .u32 ((nbits s pos n : Nat) : Int), .int .i64 ((min n (left s pos) : Nat) : Int)]) ∧ Rd w' b s pos from_ ∧ Fr (· = b) w w' := by
  obtain ⟨a, h⟩ := h
  refine vc_bitin_Reader_Peek_ok (R := fun v w' => v = .tuple #[.int .u32 ((nbits s pos n : Nat) : Int), .int .i64 ((min n (left s pos) : Nat) : Int)] ∧ Rd w' b s pos from_ ∧ Fr (· = b) w w') ?_ (fun v w' h => ⟨by rw [h.1], h.2⟩)
  refine ⟨fun hlt => absurd (of_decide_eq_true hlt) (by omega), fun _ => ⟨fun hgt => absurd (of_decide_eq_true hgt) (by omega), fun _ => ?_⟩⟩
  refine (fill_spec h (by omega) (by omega)).mono ?_
  rintro e w2 ⟨rfl, a1, h1, hc, hf⟩
  refine ⟨rfl, _, h1.c2, by omega, _, h1.c3, fun w5 d => ⟨?_, ⟨a1, h1.drew d⟩, hf.trans' (.drew _ d)⟩⟩
  have := h1.lo; have := h1.hi; have := h1.sz
  have hk := h1.held64
  have hp : 2 ^ n ≤ 2 ^ 32 := Nat.pow_le_pow_right (by decide) hn
  have hb : held s a1 pos % 2 ^ n = nbits s pos n := held_bits s a1 pos n h1.sz (by omega)
  have hl : nbits s pos n < 2 ^ n := Nat.mod_lt _ (Nat.two_pow_pos n)
  rw [mask_eq n hn, and_nat 64 _ _ (by omega) (by omega), and_mask, hb, wrap_u64 (x := ((nbits s pos n : Nat) : Int)) (by omega) (by omega), wrap_u32 (by omega) (by omega)]
  unfold left
  congr 5
  split <;> omega

/-- n bits are taken, if there are so many. -/
theorem skip_spec {b : Nat} {s : ByteArray} {pos : Nat} {from_ : Int} {w : World} (h : Rd w b s pos from_) {n : Nat} (hn : n ≤ 32) :
    Calls Tryz.prog F_bitin_Reader_Skip #[.pointer (some ⟨b, 0, none⟩), .int .i64 n] w fun e w' =>
      e = .returned (.bool (decide (n ≤ left s pos))) ∧ Rd w' b s (if n ≤ left s pos then pos + n else pos) from_ ∧ Fr (· = b) w w' := by
  obtain ⟨a, h⟩ := h
  refine vc_bitin_Reader_Skip_ok (R := fun v w' => v = .bool (decide (n ≤ left s pos)) ∧ Rd w' b s (if n ≤ left s pos then pos + n else pos) from_ ∧ Fr (· = b) w w') ?_ (fun v w' h => ⟨by rw [h.1], h.2⟩)
  refine ⟨fun hlt => absurd (of_decide_eq_true hlt) (by omega), fun _ => ⟨fun hgt => absurd (of_decide_eq_true hgt) (by omega), fun _ => ?_⟩⟩
  refine (fill_spec h (by omega) (by omega)).mono ?_
  rintro e w2 ⟨rfl, a1, h1, hc, hf⟩
  have := h1.lo; have := h1.hi; have := h1.sz
  refine ⟨rfl, _, h1.c3, fun hlt => ?_, fun hge => ?_⟩
  · have hlt := of_decide_eq_true hlt
    have hno : ¬ n ≤ left s pos := by unfold left; omega
    rw [if_neg hno, decide_eq_false hno]
    exact ⟨rfl, ⟨a1, h1⟩, hf⟩
  · have hge := of_decide_eq_false hge
    have hyes : n ≤ left s pos := by unfold left; omega
    rw [if_pos hyes, decide_eq_true hyes]
    refine ⟨_, h1.c2, by omega, wr_blk h1.blk (by simp), ?_⟩
    rintro w5 rfl
    have e0 : Int.fdiv ((held s a1 pos : Nat) : Int) (2 ^ min ((n : Int)).toNat 64) = ((held s a1 (pos + n) : Nat) : Int) := by
      have hm : min ((n : Int)).toNat 64 = n := by omega
      have hc : (2 : Int) ^ n = ((2 ^ n : Nat) : Int) := by push_cast; rfl
      rw [hm, hc, ← held_skip, Int.fdiv_eq_ediv_of_nonneg _ (Int.natCast_nonneg _), ← Int.natCast_ediv]
    rw [e0]
    have b1 := set_blk h1.blk 2 (.int .u64 ((held s a1 (pos + n) : Nat) : Int))
    refine ⟨((8 * a1 - pos : Nat) : Int), by rw [cell_blk b1]; rfl, wr_blk b1 (by simp), ?_⟩
    rintro w7 rfl
    have e1 : IntKind.i64.wrap (((8 * a1 - pos : Nat) : Int) - (n : Int)) = ((8 * a1 - (pos + n) : Nat) : Int) := by rw [wrap_i64 (by omega) (by omega)]; omega
    rw [e1]
    have b2 := set_blk b1 3 (.int .i64 ((8 * a1 - (pos + n) : Nat) : Int))
    exact ⟨rfl, ⟨a1, by omega, by omega, h1.sz, h1.ok, b2⟩, (hf.trans' (.set _ _ _ rfl)).trans' (.set _ _ _ rfl)⟩

/-- The next n bits are taken, if there are so many. -/
theorem rbits_spec {b : Nat} {s : ByteArray} {pos : Nat} {from_ : Int} {w : World} (h : Rd w b s pos from_) {n : Nat} (hn : n ≤ 32) :
    Calls Tryz.prog F_bitin_Reader_Bits #[.pointer (some ⟨b, 0, none⟩), .int .i64 n] w fun e w' =>
      e = .returned (.tuple #[.int .u32 ((if n ≤ left s pos then nbits s pos n else 0 : Nat) : Int), .bool (decide (n ≤ left s pos))]) ∧
      Rd w' b s (if n ≤ left s pos then pos + n else pos) from_ ∧ Fr (· = b) w w' := by
  refine vc_bitin_Reader_Bits_ok (R := fun v w' => v = .tuple #[.int .u32 ((if n ≤ left s pos then nbits s pos n else 0 : Nat) : Int), .bool (decide (n ≤ left s pos))] ∧
      Rd w' b s (if n ≤ left s pos then pos + n else pos) from_ ∧ Fr (· = b) w w') ?_ (fun v w' h => ⟨by rw [h.1], h.2⟩)
  refine (peek_spec h hn).mono ?_
  rintro e w2 ⟨rfl, h2, f2⟩
  refine ⟨_, _, rfl, ?_⟩
  refine (skip_spec h2 hn).mono ?_
  rintro e w6 ⟨rfl, h6, f6⟩
  refine ⟨_, rfl, fun hno => ?_, fun hyes => ?_⟩
  · have hno : ¬ n ≤ left s pos := by simpa using hno
    rw [if_neg hno] at h6
    rw [if_neg hno, if_neg hno, decide_eq_false hno]
    exact ⟨rfl, h6, f2.trans' f6⟩
  · have hyes : n ≤ left s pos := by simpa using hyes
    rw [if_pos hyes] at h6
    rw [if_pos hyes, if_pos hyes, decide_eq_true hyes]
    exact ⟨rfl, h6, f2.trans' f6⟩

/-- A new reader. -/
theorem rnew_spec {s : ByteArray} (hs : s.size ≤ 140737488351232) (n : Int) (w : World) :
    Calls Tryz.prog F_bitin_New #[.string s, .int .i64 n] w fun e w' =>
      e = .returned (.pointer (some ⟨w.heap.size, 0, none⟩)) ∧ Rd w' w.heap.size s (8 * min n.toNat s.size) ((min n.toNat s.size : Nat) : Int) ∧ Fr (fun _ => False) w w' := by
  refine vc_bitin_New_ok (R := fun v w' => v = .pointer (some ⟨w.heap.size, 0, none⟩) ∧ Rd w' w.heap.size s (8 * min n.toNat s.size) ((min n.toNat s.size : Nat) : Int) ∧ Fr (fun _ => False) w w') ?_ (fun v w' h => ⟨by rw [h.1], h.2⟩)
  rintro w1 rfl
  refine ⟨rfl, ⟨min n.toNat s.size, by omega, by omega, by omega, hs, ?_⟩, .alloc _ _ _⟩
  rw [alloc_new]
  have e : (if (if (s.size : Int) < n then (s.size : Int) else n) > 0 then if (s.size : Int) < n then (s.size : Int) else n else 0) = ((min n.toNat s.size : Nat) : Int) := by
    split <;> split at * <;> omega
  have e2 : held s (min n.toNat s.size) (8 * min n.toNat s.size) = 0 := Nat.div_eq_of_lt (V_lt s _)
  rw [e, RdO, e2]
  simp
end Go.Proofs.YtcnpekohkbjnnaaGreatDoor

/- Formulas of 2 Go functions of this seat (written by a program of the author's, vcgen.py), and that each is enough for the call. No condition. -/
set_option linter.unusedVariables false
namespace Go.Proofs.YtcnpekohkbjnnaaGreatDoor
open Go Vc Go.Proofs
set_option maxRecDepth 100000
/-- huff.New -/
def vc_huff_New (x0a : Option Addr) (x0n : Nat) (x0c : Nat) (w : World) (R : Value → World → Prop) : Prop :=
  (((decide ((↑x0n : Int) > 320) = true →
     R (Value.tuple (Array.mk [Value.pointer none, Value.int IntKind.i64 2])) w)) ∧
   (decide ((↑x0n : Int) > 320) = false →
     ∃ w1 : World, ∃ l2 : Sl, (Sem.run Tryz.prog (Builtin.append_ (Array.mk [145, 145]) 145 (Array.mk [Value.slice none 0 0, Value.slice x0a x0n x0c])) w = Result.ok (Value.slice l2.1 l2.2 l2.3) w1 ∧
      ∀ w3 : World,
      (w3 = World.alloc w1 (Obj.cells (Array.mk [Value.slice l2.1 l2.2 l2.3, Value.int IntKind.i64 0, Value.int IntKind.i64 0, Value.int IntKind.i64 0, Value.int IntKind.i64 0, Value.int IntKind.i64 0, Value.int IntKind.i64 0, Value.int IntKind.i64 0, Value.int IntKind.i64 0, Value.int IntKind.i64 0, Value.int IntKind.i64 0, Value.int IntKind.i64 0, Value.int IntKind.i64 0, Value.int IntKind.i64 0, Value.int IntKind.i64 0, Value.int IntKind.i64 0, Value.int IntKind.i64 0, Value.slice none 0 0]) 151) →
        ∃ I4 : Int → World → Prop, ∃ I5 : Int → World → Nat, (I4 0 w3 ∧
         ∀ n6 : Int,
         ∀ w7 : World,
         (I4 n6 w7 →
           (((decide (n6 < (↑x0n : Int)) = true →
              ((0 ≤ n6 ∧
                n6 < (↑x0n : Int)) ∧
               ∃ a8 : Addr, (x0a = some a8 ∧
                ∃ n9 : Int, (World.cell? w7 (Addr.add a8 (Int.toNat n6 * 1)) = some (Value.int IntKind.i64 n9) ∧
                 (((decide (n9 < 0) = true →
                    R (Value.tuple (Array.mk [Value.pointer none, Value.int IntKind.i64 1])) w7)) ∧
                  (decide (n9 < 0) = false →
                    (((decide (n9 > 15) = true →
                       R (Value.tuple (Array.mk [Value.pointer none, Value.int IntKind.i64 1])) w7)) ∧
                     (decide (n9 > 15) = false →
                       ∀ w10 : World,
                       (Drew w7 w10 →
                         ((0 ≤ n9 ∧
                           n9 < (↑16 : Int)) ∧
                          ∃ n11 : Int, (World.cell? w10 (Addr.add (Addr.mk (Array.size (World.heap w1)) 1 none) (Int.toNat n9 * 1)) = some (Value.int IntKind.i64 n11) ∧
                           ((0 ≤ n9 ∧
                             n9 < (↑16 : Int)) ∧
                            (Wr w10 (Addr.add (Addr.mk (Array.size (World.heap w1)) 1 none) (Int.toNat n9 * 1)) ∧
                             ∀ w12 : World,
                             (w12 = World.setCell w10 (Addr.add (Addr.mk (Array.size (World.heap w1)) 1 none) (Int.toNat n9 * 1)) (Value.int IntKind.i64 (IntKind.wrap IntKind.i64 (n11 + 1))) →
                               (I4 (IntKind.wrap IntKind.i64 (n6 + 1)) w12 ∧
                                I5 (IntKind.wrap IntKind.i64 (n6 + 1)) w12 < I5 n6 w7)))))))))))))))) ∧
            (decide (n6 < (↑x0n : Int)) = false →
              ∃ I13 : Int → Int → Int → World → Prop, ∃ I14 : Int → Int → Int → World → Nat, (I13 1 0 1 w7 ∧
               ∀ n15 : Int,
               ∀ n16 : Int,
               ∀ n17 : Int,
               ∀ w18 : World,
               (I13 n15 n16 n17 w18 →
                 (((decide (n17 ≤ 15) = true →
                    ((0 ≤ n17 ∧
                      n17 < (↑16 : Int)) ∧
                     ∃ n19 : Int, (World.cell? w18 (Addr.add (Addr.mk (Array.size (World.heap w1)) 1 none) (Int.toNat n17 * 1)) = some (Value.int IntKind.i64 n19) ∧
                      ((0 ≤ n17 ∧
                        n17 < (↑16 : Int)) ∧
                       ∃ n20 : Int, (World.cell? w18 (Addr.add (Addr.mk (Array.size (World.heap w1)) 1 none) (Int.toNat n17 * 1)) = some (Value.int IntKind.i64 n20) ∧
                        (((decide (IntKind.wrap IntKind.i64 (IntKind.wrap IntKind.i64 (2 * n15) - n19) < 0) = true →
                           R (Value.tuple (Array.mk [Value.pointer none, Value.int IntKind.i64 4])) w18)) ∧
                         (decide (IntKind.wrap IntKind.i64 (IntKind.wrap IntKind.i64 (2 * n15) - n19) < 0) = false →
                           ∃ I21 : Int → World → Prop, ∃ I22 : Int → World → Nat, (I21 0 w18 ∧
                            ∀ n23 : Int,
                            ∀ w24 : World,
                            (I21 n23 w24 →
                              (((decide (n23 < (↑x0n : Int)) = true →
                                 ((0 ≤ n23 ∧
                                   n23 < (↑x0n : Int)) ∧
                                  ∃ a25 : Addr, (x0a = some a25 ∧
                                   ∃ n26 : Int, (World.cell? w24 (Addr.add a25 (Int.toNat n23 * 1)) = some (Value.int IntKind.i64 n26) ∧
                                    ((((n26 == n17) = true →
                                       ∃ l27 : Sl, (World.cell? w24 (Addr.mk (Array.size (World.heap w1)) 17 none) = some (Value.slice l27.1 l27.2 l27.3) ∧
                                        ∀ w28 : World,
                                        (w28 = World.alloc w24 (Obj.cells (Array.mk [Value.int IntKind.i64 n23]) 3) →
                                          ∃ w29 : World, ∃ l30 : Sl, (Sem.run Tryz.prog (Builtin.append_ (Array.mk [145, 145]) 145 (Array.mk [Value.slice l27.1 l27.2 l27.3, Value.slice (some (Addr.mk (Array.size (World.heap w24)) 0 none)) 1 1])) w28 = Result.ok (Value.slice l30.1 l30.2 l30.3) w29 ∧
                                           (Wr w29 (Addr.mk (Array.size (World.heap w1)) 17 none) ∧
                                            ∀ w31 : World,
                                            (w31 = World.setCell w29 (Addr.mk (Array.size (World.heap w1)) 17 none) (Value.slice l30.1 l30.2 l30.3) →
                                              (I21 (IntKind.wrap IntKind.i64 (n23 + 1)) w31 ∧
                                               I22 (IntKind.wrap IntKind.i64 (n23 + 1)) w31 < I22 n23 w24)))))))) ∧
                                     ((n26 == n17) = false →
                                       (I21 (IntKind.wrap IntKind.i64 (n23 + 1)) w24 ∧
                                        I22 (IntKind.wrap IntKind.i64 (n23 + 1)) w24 < I22 n23 w24)))))))) ∧
                               (decide (n23 < (↑x0n : Int)) = false →
                                 (I13 (IntKind.wrap IntKind.i64 (IntKind.wrap IntKind.i64 (2 * n15) - n19)) (IntKind.wrap IntKind.i64 (n16 + n20)) (IntKind.wrap IntKind.i64 (n17 + 1)) w24 ∧
                                  I14 (IntKind.wrap IntKind.i64 (IntKind.wrap IntKind.i64 (2 * n15) - n19)) (IntKind.wrap IntKind.i64 (n16 + n20)) (IntKind.wrap IntKind.i64 (n17 + 1)) w24 < I14 n15 n16 n17 w18))))))))))))) ∧
                  (decide (n17 ≤ 15) = false →
                    (((decide (n15 > 0) = true →
                       (((decide (n16 > 0) = true →
                          ((((n16 == 1) = true →
                             (((0 : Int) ≤ (1 : Int) ∧
                               (1 : Int) < (↑(16 : Nat) : Int)) ∧
                              ∃ n32 : Int, (World.cell? w18 (Addr.add (Addr.mk (Array.size (World.heap w1)) 1 none) (Int.toNat 1 * 1)) = some (Value.int IntKind.i64 n32) ∧
                               ((((!n32 == 1) = true →
                                  R (Value.tuple (Array.mk [Value.pointer none, Value.int IntKind.i64 4])) w18)) ∧
                                ((!n32 == 1) = false →
                                  R (Value.tuple (Array.mk [Value.pointer (some (Addr.mk (Array.size (World.heap w1)) 0 none)), Value.int IntKind.i64 0])) w18)))))) ∧
                           ((n16 == 1) = false →
                             R (Value.tuple (Array.mk [Value.pointer none, Value.int IntKind.i64 4])) w18)))) ∧
                        (decide (n16 > 0) = false →
                          R (Value.tuple (Array.mk [Value.pointer (some (Addr.mk (Array.size (World.heap w1)) 0 none)), Value.int IntKind.i64 0])) w18)))) ∧
                     (decide (n15 > 0) = false →
                       R (Value.tuple (Array.mk [Value.pointer (some (Addr.mk (Array.size (World.heap w1)) 0 none)), Value.int IntKind.i64 0])) w18))))))))))))))
theorem vc_huff_New_ok {x0a : Option Addr} {x0n : Nat} {x0c : Nat} {w : World} {R : Value → World → Prop} {R' : Ending → World → Prop} (h : vc_huff_New x0a x0n x0c w R) (hR : ∀ v w', R v w' → R' (.returned v) w') :
    Calls Tryz.prog 105 #[.slice x0a x0n x0c] w R' :=
  calls_of_body (vs := [(.slice x0a x0n x0c, false)]) (ty := ty) (ann := ⟨[], [(5, [(21, .int .i64)]), (13, [(7, .int .i64), (8, .int .i64), (9, .int .i64)]), (20, [(67, .int .i64)])], [(9, .tail 10)], []⟩) (c := Tryz.f105.body.getD .skip) (by kernel_rfl) Tryz.func105 (by kernel_rfl) (by kernel_rfl) (Eq.mp (by kernel_rfl) h) hR
/-- (*huff.Table).Read -/
def vc_huff_Table_Read (x0 : Nat) (x1 : Nat) (w : World) (R : Value → World → Prop) : Prop :=
  ∃ l1 : Sl, (World.cell? w (Addr.mk x0 17 none) = some (Value.slice l1.1 l1.2 l1.3) ∧
   (((((↑l1.2 : Int) == 0) = true →
      R (Value.tuple (Array.mk [Value.int IntKind.i64 0, Value.int IntKind.i64 3])) w)) ∧
    (((↑l1.2 : Int) == 0) = false →
      ∃ I2 : Int → Int → Int → Int → World → Prop, ∃ I3 : Int → Int → Int → Int → World → Nat, (I2 0 0 0 1 w ∧
       ∀ n4 : Int,
       ∀ n5 : Int,
       ∀ n6 : Int,
       ∀ n7 : Int,
       ∀ w8 : World,
       (I2 n4 n5 n6 n7 w8 →
         (((decide (n7 ≤ 15) = true →
            Calls Tryz.prog (137 : Nat) (Array.mk [Value.pointer (some (Addr.mk x1 0 none)), Value.int IntKind.i64 1]) (w8) (fun e9 w10 =>
              ∃ n11 : Int, ∃ b12 : Bool, (e9 = Ending.returned (Value.tuple (Array.mk [Value.int IntKind.u32 n11, Value.bool b12])) ∧
               ((((!b12) = true →
                  R (Value.tuple (Array.mk [Value.int IntKind.i64 0, Value.int IntKind.i64 6])) w10)) ∧
                ((!b12) = false →
                  ((0 : Int) ≤ (1 : Int) ∧
                   ((0 ≤ n7 ∧
                     n7 < (↑16 : Int)) ∧
                    ∃ n13 : Int, (World.cell? w10 (Addr.add (Addr.mk x0 1 none) (Int.toNat n7 * 1)) = some (Value.int IntKind.i64 n13) ∧
                     (((decide (IntKind.wrap IntKind.i64 (IntKind.wrap IntKind.i64 (↑(BitVec.toNat (BitVec.ofInt 64 (IntKind.wrap IntKind.i64 (n4 * 2 ^ min (Int.toNat 1) 64)) ||| BitVec.ofInt 64 (IntKind.wrap IntKind.i64 n11))) : Int) - n5) < n13) = true →
                        ∃ l14 : Sl, (World.cell? w10 (Addr.mk x0 17 none) = some (Value.slice l14.1 l14.2 l14.3) ∧
                         ((0 ≤ IntKind.wrap IntKind.i64 (n6 + IntKind.wrap IntKind.i64 (IntKind.wrap IntKind.i64 (↑(BitVec.toNat (BitVec.ofInt 64 (IntKind.wrap IntKind.i64 (n4 * 2 ^ min (Int.toNat 1) 64)) ||| BitVec.ofInt 64 (IntKind.wrap IntKind.i64 n11))) : Int) - n5)) ∧
                           IntKind.wrap IntKind.i64 (n6 + IntKind.wrap IntKind.i64 (IntKind.wrap IntKind.i64 (↑(BitVec.toNat (BitVec.ofInt 64 (IntKind.wrap IntKind.i64 (n4 * 2 ^ min (Int.toNat 1) 64)) ||| BitVec.ofInt 64 (IntKind.wrap IntKind.i64 n11))) : Int) - n5)) < (↑l14.2 : Int)) ∧
                          ∃ a15 : Addr, (l14.1 = some a15 ∧
                           ∃ n16 : Int, (World.cell? w10 (Addr.add a15 (Int.toNat (IntKind.wrap IntKind.i64 (n6 + IntKind.wrap IntKind.i64 (IntKind.wrap IntKind.i64 (↑(BitVec.toNat (BitVec.ofInt 64 (IntKind.wrap IntKind.i64 (n4 * 2 ^ min (Int.toNat 1) 64)) ||| BitVec.ofInt 64 (IntKind.wrap IntKind.i64 n11))) : Int) - n5))) * 1)) = some (Value.int IntKind.i64 n16) ∧
                            R (Value.tuple (Array.mk [Value.int IntKind.i64 n16, Value.int IntKind.i64 0])) w10)))))) ∧
                      (decide (IntKind.wrap IntKind.i64 (IntKind.wrap IntKind.i64 (↑(BitVec.toNat (BitVec.ofInt 64 (IntKind.wrap IntKind.i64 (n4 * 2 ^ min (Int.toNat 1) 64)) ||| BitVec.ofInt 64 (IntKind.wrap IntKind.i64 n11))) : Int) - n5) < n13) = false →
                        ((0 ≤ n7 ∧
                          n7 < (↑16 : Int)) ∧
                         ∃ n17 : Int, (World.cell? w10 (Addr.add (Addr.mk x0 1 none) (Int.toNat n7 * 1)) = some (Value.int IntKind.i64 n17) ∧
                          ((0 ≤ n7 ∧
                            n7 < (↑16 : Int)) ∧
                           ∃ n18 : Int, (World.cell? w10 (Addr.add (Addr.mk x0 1 none) (Int.toNat n7 * 1)) = some (Value.int IntKind.i64 n18) ∧
                            ((0 : Int) ≤ (1 : Int) ∧
                             ∃ l19 : Sl, (World.cell? w10 (Addr.mk x0 17 none) = some (Value.slice l19.1 l19.2 l19.3) ∧
                              ((((IntKind.wrap IntKind.i64 (n6 + n17) == (↑l19.2 : Int)) = true →
                                 R (Value.tuple (Array.mk [Value.int IntKind.i64 0, Value.int IntKind.i64 3])) w10)) ∧
                               ((IntKind.wrap IntKind.i64 (n6 + n17) == (↑l19.2 : Int)) = false →
                                 (I2 (IntKind.wrap IntKind.i64 (↑(BitVec.toNat (BitVec.ofInt 64 (IntKind.wrap IntKind.i64 (n4 * 2 ^ min (Int.toNat 1) 64)) ||| BitVec.ofInt 64 (IntKind.wrap IntKind.i64 n11))) : Int)) (IntKind.wrap IntKind.i64 (IntKind.wrap IntKind.i64 (n5 + n18) * 2 ^ min (Int.toNat 1) 64)) (IntKind.wrap IntKind.i64 (n6 + n17)) (IntKind.wrap IntKind.i64 (n7 + 1)) w10 ∧
                                  I3 (IntKind.wrap IntKind.i64 (↑(BitVec.toNat (BitVec.ofInt 64 (IntKind.wrap IntKind.i64 (n4 * 2 ^ min (Int.toNat 1) 64)) ||| BitVec.ofInt 64 (IntKind.wrap IntKind.i64 n11))) : Int)) (IntKind.wrap IntKind.i64 (IntKind.wrap IntKind.i64 (n5 + n18) * 2 ^ min (Int.toNat 1) 64)) (IntKind.wrap IntKind.i64 (n6 + n17)) (IntKind.wrap IntKind.i64 (n7 + 1)) w10 < I3 n4 n5 n6 n7 w8)))))))))))))))))))) ∧
          (decide (n7 ≤ 15) = false →
            R (Value.tuple (Array.mk [Value.int IntKind.i64 0, Value.int IntKind.i64 3])) w8)))))))
theorem vc_huff_Table_Read_ok {x0 : Nat} {x1 : Nat} {w : World} {R : Value → World → Prop} {R' : Ending → World → Prop} (h : vc_huff_Table_Read x0 x1 w R) (hR : ∀ v w', R v w' → R' (.returned v) w') :
    Calls Tryz.prog 140 #[.pointer (some ⟨x0, 0, none⟩), .pointer (some ⟨x1, 0, none⟩)] w R' :=
  calls_of_body (vs := [(.pointer (some ⟨x0, 0, none⟩), true), (.pointer (some ⟨x1, 0, none⟩), true)]) (ty := ty) (ann := ⟨[], [(5, [(6, .int .i64), (7, .int .i64), (8, .int .i64), (9, .int .i64)])], [], []⟩) (c := Tryz.f140.body.getD .skip) (by kernel_rfl) Tryz.func140 (by kernel_rfl) (by kernel_rfl) (Eq.mp (by kernel_rfl) h) hR
end Go.Proofs.YtcnpekohkbjnnaaGreatDoor

/- What New, Code and Read of the package huff do. Conditions: the lists are short enough for a slice to hold; a table and a reader are in order. -/
set_option linter.unusedVariables false
namespace Go.Proofs.YtcnpekohkbjnnaaGreatDoor
open Go Vc BitsM HuffM Go.Proofs

theorem elInt : El Tryz.prog T_S_int T_int (.int .i64 0) 8 := ⟨by kernel_rfl, by kernel_rfl, rfl⟩
abbrev iv (l : List Int) : List Value := l.map (Value.int .i64)
abbrev nv (l : List Nat) : List Value := l.map (fun x : Nat => Value.int .i64 (x : Int))
theorem iv_nats {zs : List Int} (h : ∀ z ∈ zs, 0 ≤ z) : iv zs = nv (zs.map Int.toNat) := by
  simp only [iv, nv, List.map_map]
  exact List.map_congr_left fun z hz => by simp only [Function.comp_apply]; congr 1; have := h z hz; omega
theorem one_iv (l : List Int) : ∀ u ∈ iv l, u.oneCell' = true := fun u h => by
  obtain ⟨b, _, rfl⟩ := List.mem_map.1 h; rfl

/-- A table's cells. -/
def tcells (l1 : Sl) (c : Nat → Nat) (l2 : Sl) : Array Value :=
  #[.slice l1.a l1.len l1.cap, .int .i64 (c 0), .int .i64 (c 1), .int .i64 (c 2), .int .i64 (c 3), .int .i64 (c 4), .int .i64 (c 5), .int .i64 (c 6), .int .i64 (c 7),
    .int .i64 (c 8), .int .i64 (c 9), .int .i64 (c 10), .int .i64 (c 11), .int .i64 (c 12), .int .i64 (c 13), .int .i64 (c 14), .int .i64 (c 15), .slice l2.a l2.len l2.cap]
theorem tcells_get (l1 : Sl) (c : Nat → Nat) (l2 : Sl) : ∀ n, n < 16 → (tcells l1 c l2)[1 + n]? = some (.int .i64 (c n)) := by
  intro n h
  match n, h with
  | 0, _ | 1, _ | 2, _ | 3, _ | 4, _ | 5, _ | 6, _ | 7, _ | 8, _ | 9, _ | 10, _ | 11, _ | 12, _ | 13, _ | 14, _ | 15, _ => rfl
  | n + 16, h => omega
theorem tcells_set (l1 : Sl) (c : Nat → Nat) (l2 : Sl) (x : Nat) : ∀ n, n < 16 → (tcells l1 c l2).setIfInBounds (1 + n) (.int .i64 x) = tcells l1 (fun m => if m = n then x else c m) l2 := by
  intro n h
  match n, h with
  | 0, _ | 1, _ | 2, _ | 3, _ | 4, _ | 5, _ | 6, _ | 7, _ | 8, _ | 9, _ | 10, _ | 11, _ | 12, _ | 13, _ | 14, _ | 15, _ => rfl
  | n + 16, h => omega
theorem tcells_congr (l1 : Sl) {c d : Nat → Nat} (l2 : Sl) (h : ∀ n, n < 16 → c n = d n) : tcells l1 c l2 = tcells l1 d l2 := by
  simp only [tcells, h 0 (by decide), h 1 (by decide), h 2 (by decide), h 3 (by decide), h 4 (by decide), h 5 (by decide), h 6 (by decide), h 7 (by decide), h 8 (by decide), h 9 (by decide), h 10 (by decide), h 11 (by decide),
    h 12 (by decide), h 13 (by decide), h 14 (by decide), h 15 (by decide)]

/-- A table that is being made. -/
structure TabW (w : World) (lo b : Nat) (l1 : Sl) (zs : List Int) (c : Nat → Nat) (xs : List Nat) (l2 : Sl) : Prop where
  hlo : lo ≤ b
  blk : w.heap[b]? = some (.cells (tcells l1 c l2) T_huff_Table)
  o1 : Vc.Own w lo T_int l1 (iv zs)
  b1 : ∀ x, l1.a = some x → x.block < b
  o2 : Vc.Own w (b + 1) T_int l2 (nv xs)
section
variable {w w2 : World} {lo b : Nat} {l1 : Sl} {zs : List Int} {c : Nat → Nat} {xs : List Nat} {l2 : Sl}
theorem TabW.cnt (h : TabW w lo b l1 zs c xs l2) {n : Nat} (hn : n < 16) : w.cell? (Addr.add ⟨b, 1, none⟩ (n * 1)) = some (.int .i64 (c n)) := by
  rw [add_lit, cell_blk h.blk, Nat.mul_one, tcells_get _ _ _ n hn]
theorem TabW.c0 (h : TabW w lo b l1 zs c xs l2) : w.cell? ⟨b, 0, none⟩ = some (.slice l1.a l1.len l1.cap) := by rw [cell_blk h.blk]; rfl
theorem TabW.c17 (h : TabW w lo b l1 zs c xs l2) : w.cell? ⟨b, 17, none⟩ = some (.slice l2.a l2.len l2.cap) := by rw [cell_blk h.blk]; rfl
theorem TabW.keep (h : TabW w lo b l1 zs c xs l2) {X : Nat → Prop} (hf : Fr X w w2) (hx : ∀ k, lo ≤ k → k < w.heap.size → ¬ X k) : TabW w2 lo b l1 zs c xs l2 :=
  ⟨h.hlo, hf.keep h.blk (hx b h.hlo (lt_blk h.blk)), h.o1.keep hf (fun x hxx => hx _ (h.o1.blk hxx).1 (h.o1.blk hxx).2), h.b1, h.o2.keep hf (fun x hxx => hx _ (by have := (h.o2.blk hxx).1; have := h.hlo; omega) (h.o2.blk hxx).2)⟩
theorem TabW.keep2 (ht : TabW w lo b l1 zs c xs l2) {hi : Nat} (hb : b < hi) (h2 : ∀ x, l2.a = some x → x.block < hi) {X : Nat → Prop} (hf : Fr X w w2) (hx : ∀ k, lo ≤ k → k < hi → ¬ X k) : TabW w2 lo b l1 zs c xs l2 :=
  ⟨ht.hlo, hf.keep ht.blk (hx b ht.hlo hb), ht.o1.keep hf fun x hxx => hx _ (ht.o1.blk hxx).1 (by have := ht.b1 x hxx; omega), ht.b1, ht.o2.keep hf fun x hxx => hx _ (by have := (ht.o2.blk hxx).1; have := ht.hlo; omega) (h2 x hxx)⟩
end

/-- What is said of lengths: nought, or the error. -/
def chk (zs : List Int) : Nat :=
  if 320 < zs.length then 2
  else if ∃ z ∈ zs, z < 0 ∨ 15 < z then 1
  else if 32768 < fin (zs.map Int.toNat) 15 ∨ (fin (zs.map Int.toNat) 15 < 32768 ∧ 0 < (sorted (zs.map Int.toNat) 15).length ∧ ¬ ((sorted (zs.map Int.toNat) 15).length = 1 ∧ (zs.map Int.toNat).count 1 = 1)) then 4
  else 0

/-- A finished table of codes, whose blocks lie from lo up to hi. -/
structure Tab (w : World) (lo hi b : Nat) (ls : List Nat) : Prop where
  fits : Fits ls
  gap : Full ls ∨ (sorted ls 15).length = 0 ∨ ((sorted ls 15).length = 1 ∧ ls.count 1 = 1)
  small : ls.length ≤ 320
  at_ : ∃ l1 l2, TabW w lo b l1 (ls.map Int.ofNat) (fun n => ls.count n) (sorted ls 15) l2 ∧ b < hi ∧ ∀ x, l2.a = some x → x.block < hi
theorem Tab.keep {w w2 : World} {lo hi b : Nat} {ls : List Nat} (h : Tab w lo hi b ls) {X : Nat → Prop} (hf : Fr X w w2) (hx : ∀ k, lo ≤ k → k < hi → ¬ X k) : Tab w2 lo hi b ls := by
  obtain ⟨l1, l2, ht, hb, h2⟩ := h.at_
  exact ⟨h.fits, h.gap, h.small, l1, l2, ht.keep2 hb h2 hf hx, hb, h2⟩
theorem Tab.lt {w : World} {lo hi b : Nat} {ls : List Nat} (h : Tab w lo hi b ls) : lo ≤ b ∧ b < hi := by
  obtain ⟨l1, l2, ht, hb, h2⟩ := h.at_; exact ⟨ht.hlo, hb⟩
theorem Tab.drew {w w2 : World} {lo hi b : Nat} {ls : List Nat} (h : Tab w lo hi b ls) (d : Drew w w2) : Tab w2 lo hi b ls := h.keep (.drew (fun _ => False) d) (by simp)

theorem count_take_step' (ls : List Nat) (n : Nat) {s m : Nat} (h : ls[s]? = some m) : (ls.take (s + 1)).count n = (ls.take s).count n + (if m = n then 1 else 0) := by
  obtain ⟨h2, h3⟩ := List.getElem?_eq_some_iff.1 h
  rw [List.take_succ_eq_append_getElem h2, List.count_append, h3]
  by_cases hm : m = n
  · subst hm; simp
  · simp [hm]
/-- The symbols below s whose codes have n bits. -/
def symsTo (ls : List Nat) (n s : Nat) : List Nat := (List.range s).filter (fun i => ls[i]? == some n)
theorem symsTo_all (ls : List Nat) (n : Nat) : symsTo ls n ls.length = syms ls n := rfl
theorem symsTo_succ (ls : List Nat) (n s m : Nat) (h : ls[s]? = some m) : symsTo ls n (s + 1) = symsTo ls n s ++ (if m = n then [s] else []) := by
  rw [symsTo, symsTo, List.range_succ, List.filter_append]
  congr 1
  by_cases hm : m = n
  · subst hm; simp [h]
  · simp [h, hm]

theorem hnew_spec {a : Option Addr} {zs : List Int} {n c : Nat} {w : World} (hr : Reads w a (iv zs)) (hn : zs.length = n) (ha : ∀ x, a = some x → x.block < w.heap.size) :
    Calls Tryz.prog F_huff_New #[.slice a n c] w fun e w' =>
      ((chk zs ≠ 0 ∧ e = .returned (.tuple #[.pointer none, .int .i64 ((chk zs : Nat) : Int)])) ∨
        (chk zs = 0 ∧ ∃ b, e = .returned (.tuple #[.pointer (some ⟨b, 0, none⟩), .int .i64 0]) ∧ Tab w' w.heap.size w'.heap.size b (zs.map Int.toNat))) ∧ Fr (fun _ => False) w w' := by
  subst hn
  refine vc_huff_New_ok (R := fun v w' => ((chk zs ≠ 0 ∧ v = .tuple #[.pointer none, .int .i64 ((chk zs : Nat) : Int)]) ∨
        (chk zs = 0 ∧ ∃ b, v = .tuple #[.pointer (some ⟨b, 0, none⟩), .int .i64 0] ∧ Tab w' w.heap.size w'.heap.size b (zs.map Int.toNat))) ∧ Fr (fun _ => False) w w') ?_ ?_
  rotate_left
  · rintro v w' ⟨h | h, hf⟩
    · exact ⟨.inl ⟨h.1, by rw [h.2]⟩, hf⟩
    · obtain ⟨h0, b, hv, ht⟩ := h
      exact ⟨.inr ⟨h0, b, by rw [hv], ht⟩, hf⟩
  refine ⟨fun hgt => ?_, fun hle => ?_⟩
  · have hgt := of_decide_eq_true hgt
    have hc : chk zs = 2 := by unfold chk; rw [if_pos (by omega)]
    rw [hc]
    exact ⟨.inl ⟨by decide, rfl⟩, .refl _ _⟩
  have hle := of_decide_eq_false hle
  have hlen : zs.length ≤ 320 := by omega
  obtain ⟨w1, l1, hr1, ho1, hf1⟩ := append_all elInt (Vc.Own.nil w w.heap.size T_int) c hr (one_iv zs) (by simp [maxLen]; omega) (by simp; omega) (Nat.le_refl _) (m := zs.length) (by simp)
  rw [List.nil_append] at ho1
  refine ⟨w1, l1, hr1, ?_⟩
  intro w3 hw3
  have hfw1 : Fr (fun _ => False) w w1 := hf1.mono fun k hk ⟨y, hy, _⟩ => by cases hy
  have hf3 : Fr (fun _ => False) w1 w3 := hw3 ▸ Fr.alloc _ _ _
  have hfw3 := hfw1.trans' hf3
  generalize hB : w1.heap.size = B
  have hblk3 : w3.heap[B]? = some (.cells (tcells l1 (fun n => (([] : List Nat)).count n) ⟨none, 0, 0⟩) T_huff_Table) := by rw [hw3, ← hB]; exact alloc_new _ _
  have hb1 : ∀ x, l1.a = some x → x.block < B := fun x hx => by rw [← hB]; exact (ho1.blk hx).2
  have hloB : w.heap.size ≤ B := by rw [← hB]; exact hfw1.size
  have hat : ∀ {wx : World}, Fr (fun _ => False) w wx → Reads wx a (iv zs) := fun {wx} hf => hr.keep hf (by simp)
  let ls := zs.map Int.toNat
  have hls : ls.length = zs.length := List.length_map ..
  have hget : ∀ {k : Nat}, k < zs.length → ls[k]? = some (zs.getD k 0).toNat := fun {k} hk => by
    simp only [ls, List.getElem?_map, List.getElem?_eq_getElem hk, Option.map_some, List.getD_eq_getElem?_getD, Option.getD_some]
  have hivget : ∀ {k : Nat}, k < zs.length → (iv zs)[k]? = some (.int .i64 (zs.getD k 0)) := fun {k} hk => by
    simp only [iv, List.getElem?_map, List.getElem?_eq_getElem hk, Option.map_some, List.getD_eq_getElem?_getD, Option.getD_some]
  refine ⟨fun i w7 => ∃ k : Nat, k ≤ zs.length ∧ i = (k : Int) ∧ (∀ z ∈ zs.take k, 0 ≤ z ∧ z ≤ 15) ∧ TabW w7 w.heap.size B l1 zs (fun n => (ls.take k).count n) [] ⟨none, 0, 0⟩ ∧ Fr (fun _ => False) w w7, fun i _ => ((zs.length : Int) - i).toNat,
    ⟨0, Nat.zero_le _, rfl, by simp, ⟨hloB, hblk3, ho1.keep hf3 (by simp), hb1, Vc.Own.nil _ _ _⟩, hfw3⟩, ?_⟩
  rintro i w7 ⟨k, hk, rfl, hz, ht, hf⟩
  refine ⟨fun hlt => ?_, fun hge => ?_⟩
  · have hlt := of_decide_eq_true hlt
    have hkl : k < zs.length := by omega
    obtain ⟨x, hx, hcx⟩ := hat hf k _ (hivget hkl)
    have hmem : zs.getD k 0 ∈ zs := by rw [List.getD_eq_getElem?_getD, List.getElem?_eq_getElem hkl]; exact List.getElem_mem hkl
    have hgk := hget hkl
    have htk : zs.take (k + 1) = zs.take k ++ [zs.getD k 0] := by
      rw [List.take_succ_eq_append_getElem hkl, List.getD_eq_getElem?_getD, List.getElem?_eq_getElem hkl]; rfl
    refine ⟨⟨by omega, by omega⟩, x, hx, zs.getD k 0, by rw [Int.toNat_natCast, Nat.mul_one]; exact hcx, ?_⟩
    generalize zs.getD k 0 = z at hmem hgk htk
    have bad : z < 0 ∨ 15 < z → chk zs = 1 := fun h => by
      unfold chk
      rw [if_neg (by omega), if_pos ⟨z, hmem, h⟩]
    refine ⟨fun h => ?_, fun h0 => ⟨fun h => ?_, fun h1 => ?_⟩⟩
    · rw [bad (.inl (of_decide_eq_true h))]; exact ⟨.inl ⟨by decide, rfl⟩, hf⟩
    · rw [bad (.inr (of_decide_eq_true h))]; exact ⟨.inl ⟨by decide, rfl⟩, hf⟩
    have h0 := of_decide_eq_false h0
    have h1 := of_decide_eq_false h1
    intro w10 d10
    have ht10 := ht.keep (.drew (fun _ => False) d10) (by simp)
    obtain ⟨m, rfl⟩ := Int.eq_ofNat_of_zero_le (show 0 ≤ z by omega)
    rw [Int.toNat_natCast] at hgk ⊢
    have hm : m < 16 := by omega
    have hcn := List.count_le_length (a := m) (l := ls.take k)
    have hcl : (ls.take k).length ≤ 320 := by rw [List.length_take]; omega
    refine ⟨⟨by omega, by omega⟩, _, ht10.cnt hm, ⟨by omega, by omega⟩, ?_, ?_⟩
    · rw [add_lit]
      exact wr_blk ht10.blk (by simp [tcells]; omega)
    intro w12 hw12
    have e1 : IntKind.i64.wrap (((ls.take k).count m : Nat) + 1 : Int) = (((ls.take k).count m + 1 : Nat) : Int) := by rw [wrap_i64 (by omega) (by omega)]; omega
    have e2 : IntKind.i64.wrap ((k : Int) + 1) = ((k + 1 : Nat) : Int) := by rw [wrap_i64 (by omega) (by omega)]; omega
    rw [e1, add_lit, Nat.mul_one] at hw12
    have hb12 := set_blk ht10.blk (1 + m) (.int .i64 (((ls.take k).count m + 1 : Nat) : Int))
    rw [← hw12, tcells_set _ _ _ _ m hm] at hb12
    have hf12 : Fr (· = B) w10 w12 := hw12 ▸ Fr.set (· = B) _ (a := ⟨B, 1 + m, none⟩) _ rfl
    rw [e2]
    refine ⟨⟨k + 1, by omega, rfl, ?_, ⟨hloB, ?_, ht10.o1.keep hf12 (fun y hy => by have := hb1 y hy; omega), hb1, Vc.Own.nil _ _ _⟩, (hf.trans' (.drew _ d10)).trans hf12 (fun q hq h => by omega)⟩, by dsimp only; omega⟩
    · intro y hy
      rw [htk, List.mem_append] at hy
      rcases hy with hy | hy
      · exact hz y hy
      · rw [List.mem_singleton] at hy; omega
    · have hc := tcells_congr l1 (c := fun q => if q = m then (ls.take k).count m + 1 else (ls.take k).count q) (d := fun n => (ls.take (k + 1)).count n) ⟨none, 0, 0⟩ (fun q _ => by
        rw [count_take_step' ls q hgk]
        by_cases hq : q = m
        · subst hq; simp
        · rw [if_neg hq, if_neg (fun h => hq h.symm)]; rfl)
      rw [hb12, hc]
  have hge := of_decide_eq_false hge
  have hkk : k = zs.length := by omega
  subst hkk
  rw [List.take_length] at hz
  have htl : ls.take zs.length = ls := List.take_of_length_le (by omega)
  rw [htl] at ht
  have hno : ¬ ∃ z ∈ zs, z < 0 ∨ 15 < z := fun ⟨z, hm, h⟩ => by have := hz z hm; omega
  have h15 : ∀ n ∈ ls, n ≤ 15 := fun n hn => by
    obtain ⟨z, hm, rfl⟩ := List.mem_map.1 hn
    have := hz z hm; omega
  have over : ∀ {m : Nat}, m ≤ 15 → 2 ^ m < fin ls m → chk zs = 4 := fun {m} hm h => by
    have := over_later ls h hm
    unfold chk
    rw [if_neg (by omega), if_neg hno, if_pos (.inl this)]
  have hsl := sorted_le ls
  refine ⟨fun left codes n w' => ∃ (m : Nat) (l2 : Sl), m ≤ 15 ∧ n = (m : Int) + 1 ∧ fin ls m ≤ 2 ^ m ∧ left = ((2 ^ m - fin ls m : Nat) : Int) ∧ codes = (((sorted ls m).length : Nat) : Int) ∧
      TabW w' w.heap.size B l1 zs (fun n => ls.count n) (sorted ls m) l2 ∧ Fr (fun _ => False) w w', fun _ _ n _ => (17 - n).toNat,
    ⟨0, _, Nat.zero_le _, rfl, by simp [fin], by simp [fin], rfl, ht, hf⟩, ?_⟩
  rintro left codes n w18 ⟨m, l2, hm, rfl, hfl, rfl, rfl, ht, hf⟩
  have hp : 2 ^ m ≤ 2 ^ 15 := Nat.pow_le_pow_right (by decide) hm
  have hslm := hsl m
  refine ⟨fun hle => ?_, fun hgt => ?_⟩
  · have hle := of_decide_eq_true hle
    have hm14 : m + 1 ≤ 15 := by omega
    have hp14 : 2 ^ (m + 1) ≤ 2 ^ 15 := Nat.pow_le_pow_right (by decide) hm14
    have hp2 : 2 ^ (m + 1) = 2 * 2 ^ m := Nat.pow_succ'
    have hcnt : ls.count (m + 1) ≤ ls.length := List.count_le_length
    have hfs : fin ls (m + 1) = 2 * fin ls m + ls.count (m + 1) := rfl
    have htn : ((m : Int) + 1).toNat = m + 1 := by omega
    have hss : (sorted ls (m + 1)).length = (sorted ls m).length + ls.count (m + 1) := by rw [sorted, List.length_append, syms_length]
    have hslm1 := hsl (m + 1)
    rw [htn]
    refine ⟨⟨by omega, by omega⟩, _, ht.cnt (by omega), ⟨by omega, by omega⟩, _, ht.cnt (by omega), ?_⟩
    have e1 : IntKind.i64.wrap (IntKind.i64.wrap (2 * ((2 ^ m - fin ls m : Nat) : Int)) - ((ls.count (m + 1) : Nat) : Int)) = (2 ^ (m + 1) : Nat) - (fin ls (m + 1) : Int) := by
      rw [wrap_i64 (x := 2 * _) (by omega) (by omega), wrap_i64 (by omega) (by omega)]; omega
    have e2 : IntKind.i64.wrap ((((sorted ls m).length : Nat) : Int) + ((ls.count (m + 1) : Nat) : Int)) = (((sorted ls (m + 1)).length : Nat) : Int) := by rw [wrap_i64 (by omega) (by omega)]; omega
    have e3 : IntKind.i64.wrap ((m : Int) + 1 + 1) = ((m + 1 : Nat) : Int) + 1 := by rw [wrap_i64 (by omega) (by omega)]; omega
    rw [e1, e2, e3]
    refine ⟨fun h => ?_, fun h => ?_⟩
    · have h := of_decide_eq_true h
      rw [over hm14 (by omega)]
      exact ⟨.inl ⟨by decide, rfl⟩, hf⟩
    have h := of_decide_eq_false h
    refine ⟨fun i w24 => ∃ (k : Nat) (l2 : Sl), k ≤ zs.length ∧ i = (k : Int) ∧ TabW w24 w.heap.size B l1 zs (fun n => ls.count n) (sorted ls m ++ symsTo ls (m + 1) k) l2 ∧ Fr (fun _ => False) w w24, fun i _ => ((zs.length : Int) - i).toNat,
      ⟨0, l2, Nat.zero_le _, rfl, by simpa [symsTo] using ht, hf⟩, ?_⟩
    rintro i w24 ⟨k, l2', hk, rfl, ht24, hf24⟩
    refine ⟨fun hlt => ?_, fun hge => ?_⟩
    · have hlt := of_decide_eq_true hlt
      have hkl : k < zs.length := by omega
      obtain ⟨x, hx, hcx⟩ := hat hf24 k _ (hivget hkl)
      have hgk := hget hkl
      have hmem : zs.getD k 0 ∈ zs := by rw [List.getD_eq_getElem?_getD, List.getElem?_eq_getElem hkl]; exact List.getElem_mem hkl
      have e4 : IntKind.i64.wrap ((k : Int) + 1) = ((k + 1 : Nat) : Int) := by rw [wrap_i64 (by omega) (by omega)]; omega
      have hsk := symsTo_succ ls (m + 1) k _ hgk
      refine ⟨⟨by omega, by omega⟩, x, hx, zs.getD k 0, by rw [Int.toNat_natCast, Nat.mul_one]; exact hcx, ?_⟩
      have hz0 := hz _ hmem
      generalize zs.getD k 0 = z at hsk hz0
      rw [e4]
      refine ⟨fun heq => ?_, fun hne => ?_⟩
      · have heq : z = (m : Int) + 1 := by simpa using heq
        rw [if_pos (by omega)] at hsk
        refine ⟨l2', ht24.c17, ?_⟩
        intro w28 hw28
        have hlenx : (sorted ls m ++ symsTo ls (m + 1) k).length ≤ 640 := by
          have : (symsTo ls (m + 1) k).length ≤ k := by simpa [symsTo] using List.length_filter_le (fun i => ls[i]? == some (m + 1)) (List.range k)
          rw [List.length_append]; omega
        obtain ⟨w29, l30, hr30, ho30, hf30⟩ := append_one elInt ht24.o2 (v := .int .i64 (k : Int)) rfl (by simp only [List.length_map, maxLen]; omega) (by simp only [List.length_map]; omega) (lt_blk ht24.blk) hw28
        have hX : ∀ k, (∃ y, l2'.a = some y ∧ k = y.block) → B + 1 ≤ k := fun k ⟨y, hy, e⟩ => by rw [e]; exact (ht24.o2.blk hy).1
        have hb29 := hf30.keep ht24.blk (fun h => by have := hX _ h; omega)
        refine ⟨w29, l30, hr30, wr_blk hb29 (by simp [tcells]), ?_⟩
        intro w31 hw31
        have hb31 := set_blk hb29 17 (.slice l30.a l30.len l30.cap)
        rw [← hw31] at hb31
        have hf31 : Fr (· = B) w29 w31 := hw31 ▸ Fr.set (· = B) _ (a := ⟨B, 17, none⟩) _ rfl
        refine ⟨⟨k + 1, l30, by omega, rfl, ⟨hloB, hb31, ?_, hb1, ?_⟩, (hf24.trans hf30 (fun q hq hh => by have := hX _ hh; omega)).trans hf31 (fun q hq hh => by omega)⟩, by dsimp only; omega⟩
        · exact (ht24.o1.keep hf30 (fun y hy hh => by have := hX _ hh; have := hb1 y hy; omega)).keep hf31 (fun y hy => by have := hb1 y hy; omega)
        · rw [hsk, ← List.append_assoc]
          have := ho30.keep hf31 (fun y hy => by have := (ho30.blk hy).1; omega)
          simpa [nv] using this
      · have hne : ¬ z = (m : Int) + 1 := by simpa using hne
        rw [if_neg (by omega), List.append_nil] at hsk
        rw [← hsk] at ht24
        exact ⟨⟨k + 1, l2', by omega, rfl, ht24, hf24⟩, by dsimp only; omega⟩
    · have hge := of_decide_eq_false hge
      have : k = zs.length := by omega
      subst this
      rw [← hls, symsTo_all] at ht24
      refine ⟨⟨m + 1, l2', hm14, rfl, by omega, by omega, rfl, ht24, hf24⟩, by dsimp only; omega⟩
  have hgt := of_decide_eq_false hgt
  have hm15 : m = 15 := by omega
  subst hm15
  have hzs : zs = ls.map Int.ofNat := by
    simp only [ls, List.map_map]
    rw [eq_comm]
    exact (List.map_congr_left (g := id) fun z hz' => by have := hz z hz'; simp only [Function.comp_apply, id]; exact Int.toNat_of_nonneg this.1).trans (List.map_id _)
  have good : (fin ls 15 = 32768 ∨ (sorted ls 15).length = 0 ∨ ((sorted ls 15).length = 1 ∧ ls.count 1 = 1)) → chk zs = 0 ∧ Tab w18 w.heap.size w18.heap.size B ls := fun h => by
    refine ⟨?_, ⟨by omega, h15⟩, h, by omega, l1, l2, by rw [← hzs]; exact ht, lt_blk ht.blk, fun x hx => (ht.o2.blk hx).2⟩
    unfold chk
    rw [if_neg (by omega), if_neg hno, if_neg]
    show ¬ (32768 < fin ls 15 ∨ (fin ls 15 < 32768 ∧ 0 < (sorted ls 15).length ∧ ¬ ((sorted ls 15).length = 1 ∧ ls.count 1 = 1)))
    omega
  have bad : fin ls 15 < 32768 → 0 < (sorted ls 15).length → ¬ ((sorted ls 15).length = 1 ∧ ls.count 1 = 1) → chk zs = 4 := fun h1 h2 h3 => by
    unfold chk
    rw [if_neg (by omega), if_neg hno, if_pos (.inr ⟨h1, h2, h3⟩)]
  refine ⟨fun hl => ?_, fun hl => ?_⟩
  · have hl := of_decide_eq_true hl
    refine ⟨fun hc => ?_, fun hc => ?_⟩
    · have hc := of_decide_eq_true hc
      refine ⟨fun h1 => ?_, fun h1 => ?_⟩
      · have h1 : (((sorted ls 15).length : Nat) : Int) = 1 := by simpa using h1
        refine ⟨⟨by decide, by decide⟩, _, ht.cnt (n := 1) (by decide), fun h2 => ?_, fun h2 => ?_⟩
        · have h2 : ¬ ls.count 1 = 1 := by intro h; rw [h] at h2; exact absurd h2 (by decide)
          rw [bad (by omega) (by omega) (by omega)]
          exact ⟨.inl ⟨by decide, rfl⟩, hf⟩
        · have h2 : ls.count 1 = 1 := by
            by_cases h : ls.count 1 = 1
            · exact h
            · exfalso
              have : (((ls.count 1 : Nat) : Int) == 1) = false := by simp; omega
              rw [this] at h2; exact absurd h2 (by decide)
          obtain ⟨g1, g2⟩ := good (by omega)
          exact ⟨.inr ⟨g1, B, rfl, g2⟩, hf⟩
      · have h1 : ¬ (((sorted ls 15).length : Nat) : Int) = 1 := by simpa using h1
        rw [bad (by omega) (by omega) (by omega)]
        exact ⟨.inl ⟨by decide, rfl⟩, hf⟩
    · have hc := of_decide_eq_false hc
      obtain ⟨g1, g2⟩ := good (by omega)
      exact ⟨.inr ⟨g1, B, rfl, g2⟩, hf⟩
  · have hl := of_decide_eq_false hl
    obtain ⟨g1, g2⟩ := good (by omega)
    exact ⟨.inr ⟨g1, B, rfl, g2⟩, hf⟩
end Go.Proofs.YtcnpekohkbjnnaaGreatDoor

/- What Code and Read of a table of codes do, for every table and reader in order. -/
set_option linter.unusedVariables false
namespace Go.Proofs.YtcnpekohkbjnnaaGreatDoor
open Go Vc BitsM HuffM Go.Proofs

/-- A symbol's code and length; nought, nought: it has none. -/
def cd (ls : List Nat) (x : Int) : Nat × Nat := if 0 ≤ x ∧ ls.getD x.toNat 0 ≠ 0 then (code ls x.toNat, ls.getD x.toNat 0) else (0, 0)
theorem nv_get {l : List Nat} {k x : Nat} (h : l[k]? = some x) : (nv l)[k]? = some (.int .i64 (x : Int)) := by simp [nv, h]
theorem iv_ofNat (ls : List Nat) : iv (ls.map Int.ofNat) = nv ls := by simp [iv, nv]
theorem sorted_mono (ls : List Nat) (n : Nat) : ∀ d, (sorted ls n).length ≤ (sorted ls (n + d)).length
  | 0 => Nat.le_refl _
  | d + 1 => by rw [← Nat.add_assoc, sorted, List.length_append]; have := sorted_mono ls n d; omega
theorem sorted_lt {ls : List Nat} {z m : Nat} (hz : z ∈ ls) (hm : m < z) (h15 : z ≤ 15) : (sorted ls m).length < (sorted ls 15).length := by
  have h1 := sorted_mono ls m (z - 1 - m)
  have h2 := sorted_mono ls z (15 - z)
  rw [show m + (z - 1 - m) = z - 1 by omega] at h1
  rw [show z + (15 - z) = 15 by omega] at h2
  obtain ⟨q, rfl⟩ : ∃ q, z = q + 1 := ⟨z - 1, by omega⟩
  have h3 : (sorted ls (q + 1)).length = (sorted ls q).length + ls.count (q + 1) := by rw [sorted, List.length_append, syms_length]
  have h4 : 0 < ls.count (q + 1) := List.count_pos_iff.2 hz
  rw [Nat.add_sub_cancel] at h1; omega
theorem sorted_more {ls : List Nat} {m : Nat} (h : (sorted ls m).length < (sorted ls 15).length) : ∃ z ∈ ls, m < z := by
  rw [sorted_length, sorted_length] at h
  apply Classical.byContradiction
  intro hno
  have : ls.countP (fun x => decide (1 ≤ x ∧ x ≤ 15)) ≤ ls.countP (fun x => decide (1 ≤ x ∧ x ≤ m)) := List.countP_mono_left fun x hx hp => by
    have : x ≤ m := Nat.le_of_not_lt fun hl => hno ⟨x, hx, hl⟩
    simp only [decide_eq_true_eq] at hp ⊢; omega
  omega

/-- What reading the bits B comes to: a symbol, or an error; how many bits are taken. -/
def Res (ls : List Nat) (B : List Bool) (x err n : Nat) : Prop :=
  (err = 0 ∧ HuffM.At ls B x n) ∨ (err = 6 ∧ x = 0 ∧ n = B.length ∧ n < 15 ∧ fin ls n ≤ hv B ∧ ∃ z ∈ ls, n < z) ∨ (err = 3 ∧ x = 0 ∧ n ≤ B.length ∧ n ≤ 15 ∧ fin ls n ≤ hv (B.take n) ∧ ∀ z ∈ ls, z ≤ n)
theorem Res.le {ls : List Nat} {B : List Bool} {x err n : Nat} (h : Res ls B x err n) : n ≤ B.length := by
  rcases h with ⟨_, h⟩ | ⟨_, _, h, _⟩ | ⟨_, _, h, _⟩
  · exact h.2.2.1
  · omega
  · exact h

theorem or_bit (c b : Nat) (hb : b ≤ 1) : (2 * c) ||| b = 2 * c + b := by
  have := Nat.two_pow_add_eq_or_of_lt (i := 1) (b := b) (by omega) c
  simpa using this.symm
theorem shl_or {c b : Nat} (hc : c < 32768) (hb : b ≤ 1) :
    IntKind.i64.wrap (↑((BitVec.ofInt 64 (IntKind.i64.wrap ((c : Int) * 2 ^ min (Int.toNat 1) 64)) ||| BitVec.ofInt 64 (IntKind.i64.wrap (b : Int))).toNat) : Int) = ((2 * c + b : Nat) : Int) := by
  have h2 : (2 : Int) ^ min (Int.toNat 1) 64 = 2 := rfl
  have e : ((c : Int) * 2) = ((2 * c : Nat) : Int) := by omega
  rw [h2, e, wrap_i64 (x := ((2 * c : Nat) : Int)) (by omega) (by omega), wrap_i64 (x := (b : Int)) (by omega) (by omega), or_nat 64 _ _ (by omega) (by omega), or_bit c b hb, wrap_i64 (by omega) (by omega)]

theorem hread_spec {w : World} {lo hi b rb : Nat} {ls : List Nat} (h : Tab w lo hi b ls) {s : ByteArray} {pos : Nat} {from_ : Int} (hr : Rd w rb s pos from_) (hrb : rb < lo ∨ hi ≤ rb) :
    Calls Tryz.prog F_huff_Table_Read #[.pointer (some ⟨b, 0, none⟩), .pointer (some ⟨rb, 0, none⟩)] w fun e w' =>
      ∃ x err n, e = .returned (.tuple #[.int .i64 ((x : Nat) : Int), .int .i64 ((err : Nat) : Int)]) ∧ Res ls ((sbits s.data.toList).drop pos) x err n ∧ Rd w' rb s (pos + n) from_ ∧ Fr (· = rb) w w' := by
  obtain ⟨l1, l2, ht, hb, hh⟩ := h.at_
  have hfits := h.fits
  have hls := h.small
  refine vc_huff_Table_Read_ok (R := fun v w' => ∃ x err n, v = .tuple #[.int .i64 ((x : Nat) : Int), .int .i64 ((err : Nat) : Int)] ∧ Res ls ((sbits s.data.toList).drop pos) x err n ∧ Rd w' rb s (pos + n) from_ ∧ Fr (· = rb) w w') ?_
    (fun v w' ⟨x, err, n, h⟩ => ⟨x, err, n, by rw [h.1], h.2⟩)
  have hlen2 : l2.len = (sorted ls 15).length := by rw [ht.o2.len, List.length_map]
  have hsl := sorted_le ls
  have hBlen : ((sbits s.data.toList).drop pos).length = left s pos := by
    rw [List.length_drop, sbits_length]; unfold left; simp
  generalize hBd : (sbits s.data.toList).drop pos = B at hBlen
  refine ⟨l2, ht.c17, fun h0 => ?_, fun h0 => ?_⟩
  · have h0 : l2.len = 0 := by have : (l2.len : Int) = 0 := by simpa using h0
                               omega
    refine ⟨0, 3, 0, rfl, .inr (.inr ⟨rfl, rfl, Nat.zero_le _, by decide, by simp [fin], fun z hz => ?_⟩), hr, .refl _ _⟩
    rcases Nat.eq_zero_or_pos z with h | h
    · omega
    · have := sorted_lt hz (m := z - 1) (by omega) (hfits.2 z hz); omega
  have h0 : ¬ l2.len = 0 := fun h => by simp [h] at h0
  refine ⟨fun cde first at_ n w' => ∃ m : Nat, n = (m : Int) + 1 ∧ m ≤ B.length ∧ m ≤ 15 ∧ cde = ((hv (B.take m) : Nat) : Int) ∧ first = ((2 * fin ls m : Nat) : Int) ∧ at_ = (((sorted ls m).length : Nat) : Int) ∧
      fin ls m ≤ hv (B.take m) ∧ (sorted ls m).length < (sorted ls 15).length ∧ Rd w' rb s (pos + m) from_ ∧ Fr (· = rb) w w', fun _ _ _ n _ => (17 - n).toNat,
    ⟨0, rfl, Nat.zero_le _, by decide, rfl, rfl, rfl, by simp [fin], (by show 0 < (sorted ls 15).length; omega), hr, .refl _ _⟩, ?_⟩
  rintro cde first at_ n w8 ⟨m, rfl, hmB, hm15, rfl, rfl, rfl, hge, hmore, hr8, hf8⟩
  have hm14 : m < 15 := by
    rcases Nat.lt_or_ge m 15 with h | h
    · exact h
    · have : m = 15 := by omega
      subst this; omega
  refine ⟨fun _ => ?_, fun hgt => absurd (of_decide_eq_false hgt) (by omega)⟩
  refine (rbits_spec hr8 (n := 1) (by decide)).mono ?_
  rintro e w10 ⟨rfl, hr10, hf10⟩
  have ht10 := ht.keep2 hb hh (hf8.trans' hf10) (fun k h1 h2 h3 => by omega)
  have hlp : left s (pos + m) = B.length - m := by rw [hBlen]; unfold left; omega
  refine ⟨_, _, rfl, fun hno => ?_, fun hyes => ?_⟩
  · have hno : ¬ 1 ≤ left s (pos + m) := by simpa using hno
    rw [if_neg hno] at hr10
    have hmB : m = B.length := by omega
    refine ⟨0, 6, m, rfl, .inr (.inl ⟨rfl, rfl, hmB, hm14, ?_, sorted_more hmore⟩), hr10, hf8.trans' hf10⟩
    subst hmB; rwa [List.take_length] at hge
  have hyes : 1 ≤ left s (pos + m) := by simpa using hyes
  rw [if_pos hyes] at hr10
  have hmlt : m < B.length := by omega
  have hbit : nbits s (pos + m) 1 = B[m].toNat := by
    rw [nbits_list, ← List.drop_drop, hBd, List.drop_eq_getElem_cons hmlt]
    cases B[m] <;> rfl
  have htk : B.take (m + 1) = B.take m ++ [B[m]] := List.take_succ_eq_append_getElem hmlt
  have hhv : hv (B.take (m + 1)) = 2 * hv (B.take m) + B[m].toNat := by rw [htk, hv_snoc]
  have hb1 : B[m].toNat ≤ 1 := Bool.toNat_le _
  have hvl := hv_lt (B.take m)
  have hp : 2 ^ (B.take m).length ≤ 2 ^ 14 := Nat.pow_le_pow_right (by decide) (by rw [List.length_take]; omega)
  have hfle : fin ls (m + 1) ≤ 32768 := by
    have := hfits.le (n := m + 1) (by omega)
    have : 2 ^ (m + 1) ≤ 2 ^ 15 := Nat.pow_le_pow_right (by decide) (by omega)
    omega
  have hfs : fin ls (m + 1) = 2 * fin ls m + ls.count (m + 1) := rfl
  have hss : (sorted ls (m + 1)).length = (sorted ls m).length + ls.count (m + 1) := by rw [sorted, List.length_append, syms_length]
  have hs1 := hsl (m + 1)
  have htn : ((m : Int) + 1).toNat = m + 1 := by omega
  rw [if_pos hyes, hbit, shl_or (by omega) hb1, ← hhv, htn]
  generalize hC : hv (B.take (m + 1)) = C at hhv
  have e1 : IntKind.i64.wrap ((C : Int) - ((2 * fin ls m : Nat) : Int)) = ((C - 2 * fin ls m : Nat) : Int) := by rw [wrap_i64 (by omega) (by omega)]; omega
  rw [e1]
  refine ⟨by decide, ⟨by omega, by omega⟩, _, ht10.cnt (by omega), fun hlt => ?_, fun hge2 => ?_⟩
  · have hlt := of_decide_eq_true hlt
    have hk' : C - 2 * fin ls m < (syms ls (m + 1)).length := by rw [syms_length]; omega
    have hsy := List.getElem?_eq_getElem hk'
    generalize (syms ls (m + 1))[C - 2 * fin ls m] = x at hsy
    obtain ⟨hs1', hs2⟩ := syms_code hsy
    have hso := sorted_get (by omega) hsy (15 - (m + 1))
    rw [show m + 1 + (15 - (m + 1)) = 15 by omega, Nat.add_sub_cancel] at hso
    obtain ⟨z, hz, hcz⟩ := ht10.o2.reads _ _ (nv_get hso)
    have hso15 := (List.getElem?_eq_some_iff.1 hso).1
    have hsz := hsl 15
    have e2 : IntKind.i64.wrap ((((sorted ls m).length : Nat) : Int) + ((C - 2 * fin ls m : Nat) : Int)) = (((sorted ls m).length + (C - 2 * fin ls m) : Nat) : Int) := by rw [wrap_i64 (by omega) (by omega)]; omega
    rw [e2]
    refine ⟨l2, ht10.c17, ⟨by omega, by omega⟩, z, hz, _, by rw [Int.toNat_natCast, Nat.mul_one]; exact hcz, x, 0, m + 1, rfl, .inl ⟨rfl, hs1', by omega, by omega, ?_⟩, hr10, hf8.trans' hf10⟩
    rw [hC, hs2, Nat.add_sub_cancel]; omega
  · have hge2 := of_decide_eq_false hge2
    have e2 : IntKind.i64.wrap ((((sorted ls m).length : Nat) : Int) + ((ls.count (m + 1) : Nat) : Int)) = (((sorted ls (m + 1)).length : Nat) : Int) := by rw [wrap_i64 (by omega) (by omega)]; omega
    have h2 : (2 : Int) ^ min (Int.toNat 1) 64 = 2 := rfl
    have e3 : IntKind.i64.wrap (IntKind.i64.wrap (((2 * fin ls m : Nat) : Int) + ((ls.count (m + 1) : Nat) : Int)) * 2 ^ min (Int.toNat 1) 64) = ((2 * fin ls (m + 1) : Nat) : Int) := by
      rw [h2, wrap_i64 (x := _ + _) (by omega) (by omega), wrap_i64 (by omega) (by omega)]; omega
    have e4 : IntKind.i64.wrap ((m : Int) + 1 + 1) = ((m + 1 : Nat) : Int) + 1 := by rw [wrap_i64 (by omega) (by omega)]; omega
    have hge' : fin ls (m + 1) ≤ hv (B.take (m + 1)) := by rw [hC]; omega
    refine ⟨⟨by omega, by omega⟩, _, ht10.cnt (by omega), ⟨by omega, by omega⟩, _, ht10.cnt (by omega), by decide, l2, ht10.c17, ?_⟩
    rw [e2, e3, e4]
    refine ⟨fun heq => ?_, fun hne => ?_⟩
    · have heq : (((sorted ls (m + 1)).length : Nat) : Int) = (l2.len : Int) := by simpa using heq
      refine ⟨0, 3, m + 1, rfl, .inr (.inr ⟨rfl, rfl, by omega, by omega, hge', fun z hz => ?_⟩), hr10, hf8.trans' hf10⟩
      rcases Nat.lt_or_ge (m + 1) z with h | h
      · have := sorted_lt hz h (hfits.2 z hz); omega
      · exact h
    · have hne : ¬ (((sorted ls (m + 1)).length : Nat) : Int) = (l2.len : Int) := by simpa using hne
      have hmono := sorted_mono ls (m + 1) (15 - (m + 1))
      rw [show m + 1 + (15 - (m + 1)) = 15 by omega] at hmono
      exact ⟨⟨m + 1, rfl, by omega, by omega, by rw [hC], rfl, rfl, hge', by omega, hr10, hf8.trans' hf10⟩, by dsimp only; omega⟩
end Go.Proofs.YtcnpekohkbjnnaaGreatDoor

/- Plain facts on bits put into bytes. -/
set_option linter.unusedVariables false
namespace BitsM
open Vc
/-- Byte number i of a list of bits. -/
def byteOf (l : List Bool) (i : Nat) : UInt8 := UInt8.ofNat (num ((l.drop (8 * i)).take 8))
theorem byteOf_nat (l : List Bool) (i : Nat) : (byteOf l i).toNat = num ((l.drop (8 * i)).take 8) := by
  unfold byteOf
  have h := num_lt ((l.drop (8 * i)).take 8)
  have : 2 ^ ((l.drop (8 * i)).take 8).length ≤ 2 ^ 8 := Nat.pow_le_pow_right (by decide) (List.length_take_le _ _)
  rw [UInt8.toNat_ofNat_of_lt']
  exact Nat.lt_of_lt_of_le h this
/-- The first k bytes. -/
def bytesOf (l : List Bool) (k : Nat) : List UInt8 := (List.range k).map (byteOf l)
theorem bytesOf_length (l : List Bool) (k : Nat) : (bytesOf l k).length = k := by simp [bytesOf]
theorem bytesOf_succ (l : List Bool) (k : Nat) : bytesOf l (k + 1) = bytesOf l k ++ [byteOf l k] := by simp [bytesOf, List.range_succ]
theorem byteOf_append (l r : List Bool) (i : Nat) (h : 8 * (i + 1) ≤ l.length) : byteOf (l ++ r) i = byteOf l i := by
  unfold byteOf
  rw [List.drop_append_of_le_length (by omega), List.take_append_of_le_length (by rw [List.length_drop]; omega)]
theorem bytesOf_append (l r : List Bool) (k : Nat) (h : 8 * k ≤ l.length) : bytesOf (l ++ r) k = bytesOf l k := by
  unfold bytesOf
  apply List.map_congr_left
  intro i hi
  have := List.mem_range.1 hi
  exact byteOf_append l r i (by omega)
/-- All the bytes, the last one filled with noughts. -/
def textOf (l : List Bool) : List UInt8 := bytesOf l ((l.length + 7) / 8)
theorem textOf_length (l : List Bool) : (textOf l).length = (l.length + 7) / 8 := bytesOf_length _ _
/-- The bits of the bytes are the bits, and noughts. -/
def fill8 (l : List Bool) : List Bool := l ++ List.replicate (8 * ((l.length + 7) / 8) - l.length) false
theorem num_replicate : ∀ n, num (List.replicate n false) = 0
  | 0 => rfl
  | n + 1 => by simp [List.replicate_succ, num, num_replicate n]
theorem byteOf_fill (l : List Bool) (i : Nat) : byteOf (fill8 l) i = byteOf l i := by
  have : num (((fill8 l).drop (8 * i)).take 8) = num ((l.drop (8 * i)).take 8) := by
    rw [num_take, num_take, num_drop, num_drop]
    unfold fill8
    rw [num_append, num_replicate]; simp
  unfold byteOf; rw [this]
theorem lowB_num : ∀ (l : List Bool), lowB l.length (num l) = l
  | [] => rfl
  | b :: r => by
    simp only [List.length_cons, lowB, num]
    have h1 : (b.toNat + 2 * num r) % 2 = b.toNat := by have := Bool.toNat_le b; omega
    have h2 : (b.toNat + 2 * num r) / 2 = num r := by have := Bool.toNat_le b; omega
    rw [h1, h2, lowB_num r]
    cases b <;> rfl
theorem sbits_bytesOf (l : List Bool) : ∀ k, 8 * k ≤ l.length → sbits (bytesOf l k) = l.take (8 * k)
  | 0, _ => rfl
  | k + 1, h => by
    rw [bytesOf_succ, sbits_append, sbits_bytesOf l k (by omega)]
    simp only [sbits, List.append_nil, byteOf_nat]
    have hl : ((l.drop (8 * k)).take 8).length = 8 := by simp; omega
    have := lowB_num ((l.drop (8 * k)).take 8)
    rw [hl] at this
    rw [this, show 8 * (k + 1) = 8 * k + 8 by omega, List.take_add]
theorem sbits_textOf (l : List Bool) : sbits (textOf l) = fill8 l := by
  have hl : (fill8 l).length = 8 * ((l.length + 7) / 8) := by unfold fill8; simp; omega
  have h1 : textOf l = bytesOf (fill8 l) ((l.length + 7) / 8) := by
    unfold textOf bytesOf
    apply List.map_congr_left
    intro i _
    exact (byteOf_fill l i).symm
  rw [h1, sbits_bytesOf _ _ (by omega), ← hl, List.take_length]
theorem textOf_false (l : List Bool) : textOf (l ++ [false]) = if l.length % 8 = 0 then textOf l ++ [0] else textOf l := by
  have hb : ∀ i, byteOf (l ++ [false]) i = byteOf l i := fun i => by
    have : num (((l ++ [false]).drop (8 * i)).take 8) = num ((l.drop (8 * i)).take 8) := by
      rw [num_take, num_take, num_drop, num_drop, num_append]; simp [num]
    unfold byteOf; rw [this]
  have hm : ∀ k, bytesOf (l ++ [false]) k = bytesOf l k := fun k => by
    unfold bytesOf; exact List.map_congr_left fun i _ => hb i
  unfold textOf
  rw [hm, List.length_append, List.length_singleton]
  split
  · rename_i h
    rw [show (l.length + 1 + 7) / 8 = (l.length + 7) / 8 + 1 by omega, bytesOf_succ]
    have : byteOf l ((l.length + 7) / 8) = 0 := by
      unfold byteOf
      rw [List.drop_eq_nil_of_le (by omega)]; rfl
    rw [this]
  · rename_i h
    rw [show (l.length + 1 + 7) / 8 = (l.length + 7) / 8 by omega]
theorem textOf_true (l : List Bool) : ∃ x : UInt8, (textOf (l ++ [false]))[l.length / 8]? = some x ∧ x.toNat + 2 ^ (l.length % 8) < 256 ∧
    textOf (l ++ [true]) = (textOf (l ++ [false])).set (l.length / 8) (UInt8.ofNat (x.toNat + 2 ^ (l.length % 8))) := by
  have h1 : ∀ b, num (((l ++ [b]).drop (8 * (l.length / 8))).take 8) = num (l.drop (8 * (l.length / 8))) + 2 ^ (l.length % 8) * b.toNat := fun b => by
    rw [List.take_of_length_le (by simp; omega), List.drop_append_of_le_length (by omega), num_append, List.length_drop]
    rw [show l.length - 8 * (l.length / 8) = l.length % 8 by omega]; simp [num]
  have hlt := num_lt (l.drop (8 * (l.length / 8)))
  rw [List.length_drop, show l.length - 8 * (l.length / 8) = l.length % 8 by omega] at hlt
  have hp : 2 ^ (l.length % 8) ≤ 2 ^ 7 := Nat.pow_le_pow_right (by decide) (by omega)
  have hf := byteOf_nat (l ++ [false]) (l.length / 8)
  have ht := byteOf_nat (l ++ [true]) (l.length / 8)
  rw [h1] at hf ht
  simp only [Bool.toNat_false, Bool.toNat_true, Nat.mul_zero, Nat.add_zero, Nat.mul_one] at hf ht
  refine ⟨byteOf (l ++ [false]) (l.length / 8), ?_, by omega, ?_⟩
  · unfold textOf bytesOf
    rw [List.getElem?_map, List.getElem?_range (by simp; omega)]; rfl
  · apply List.ext_getElem?
    intro i
    rw [List.getElem?_set, textOf_length]
    have hlen : ((l ++ [false]).length + 7) / 8 = l.length / 8 + 1 := by simp; omega
    have hlen2 : ((l ++ [true]).length + 7) / 8 = l.length / 8 + 1 := by simp; omega
    unfold textOf bytesOf
    rw [hlen, hlen2]
    by_cases hi : l.length / 8 = i
    · subst hi
      rw [if_pos rfl, if_pos (by omega), List.getElem?_map, List.getElem?_range (by omega)]
      simp only [Option.map_some, Option.some.injEq]
      apply UInt8.toNat_inj.1
      rw [ht, hf, UInt8.toNat_ofNat_of_lt' (by show _ < 256; omega)]
    · rw [if_neg hi, List.getElem?_map, List.getElem?_map]
      by_cases hlt : i < l.length / 8 + 1
      · rw [List.getElem?_range hlt]
        simp only [Option.map_some]
        rw [byteOf_append l [true] i (by omega), byteOf_append l [false] i (by omega)]
      · simp [List.getElem?_eq_none (show (List.range (l.length / 8 + 1)).length ≤ i by simp; omega)]
theorem textOf_sbits (m : List UInt8) : textOf (sbits m) = m := by
  apply List.ext_getElem?
  intro i
  unfold textOf bytesOf
  rw [sbits_length, show (8 * m.length + 7) / 8 = m.length by omega, List.getElem?_map]
  by_cases hi : i < m.length
  · rw [List.getElem?_range hi, List.getElem?_eq_getElem hi]
    simp only [Option.map_some, Option.some.injEq]
    apply UInt8.toNat_inj.1
    rw [byteOf_nat, ← sbits_drop, List.drop_eq_getElem_cons hi]
    have := (m[i]).toNat_lt
    simp only [sbits]
    rw [List.take_append_of_le_length (by rw [lowB_length]; omega), List.take_of_length_le (by rw [lowB_length]; omega), num_lowB, Nat.mod_eq_of_lt (by omega)]
  · rw [List.getElem?_eq_none (by simp; omega), List.getElem?_eq_none (by omega)]; rfl
theorem lowB_zero : ∀ n, lowB n 0 = List.replicate n false
  | 0 => rfl
  | n + 1 => by simp [lowB, lowB_zero n, List.replicate_succ]
theorem fill8_length (l : List Bool) : (fill8 l).length = 8 * ((l.length + 7) / 8) := by unfold fill8; simp; omega
theorem fill8_lowB (l : List Bool) (h : l.length % 8 ≠ 0) : l ++ lowB (8 - l.length % 8) 0 = fill8 l := by
  unfold fill8
  rw [lowB_zero, show 8 * ((l.length + 7) / 8) - l.length = 8 - l.length % 8 by omega]
theorem fill8_whole (l : List Bool) (h : l.length % 8 = 0) : fill8 l = l := by
  unfold fill8
  rw [show 8 * ((l.length + 7) / 8) - l.length = 0 by omega]; simp
theorem bytesOf_sbits (L : List Bool) (q : Nat) (hq : L.length = 8 * q) (s : List UInt8) : ∀ j, j ≤ s.length → bytesOf (L ++ sbits s) (q + j) = bytesOf L q ++ s.take j
  | 0, _ => by rw [Nat.add_zero, bytesOf_append _ _ _ (by omega)]; simp
  | j + 1, h => by
    rw [← Nat.add_assoc, bytesOf_succ, bytesOf_sbits L q hq s j (by omega), List.take_succ_eq_append_getElem (by omega), List.append_assoc]
    congr 2
    have h1 : byteOf (L ++ sbits s) (q + j) = byteOf (sbits s) j := by
      unfold byteOf
      rw [show 8 * (q + j) = L.length + 8 * j by omega, ← List.drop_drop, List.drop_left]
    have h2 := congrArg (fun l => l[j]?) (textOf_sbits s)
    simp only [textOf, bytesOf, sbits_length] at h2
    rw [show (8 * s.length + 7) / 8 = s.length by omega, List.getElem?_map, List.getElem?_range (by omega), List.getElem?_eq_getElem (by omega)] at h2
    simp only [Option.map_some, Option.some.injEq] at h2
    rw [h1, h2]
end BitsM

/- Plain facts: what the reference's reading comes to is what the table's reading comes to. -/
set_option linter.unusedVariables false
namespace HuffM
open BitsM Go.Proofs.YtcnpekohkbjnnaaGreatDoor
theorem fin_append (l r : List Nat) : ∀ m, fin (l ++ r) m = fin l m + fin r m
  | 0 => rfl
  | m + 1 => by simp only [fin, fin_append l r m, List.count_append]; omega
theorem num_inj : ∀ {l r : List Bool}, l.length = r.length → num l = num r → l = r
  | [], [], _, _ => rfl
  | a :: l, b :: r, hl, hn => by
    simp only [num] at hn
    have ha := Bool.toNat_le a
    have hb := Bool.toNat_le b
    have h1 : a.toNat = b.toNat := by omega
    have h2 : num l = num r := by omega
    rw [num_inj (by simpa using hl) h2]
    congr 1
    cases a <;> cases b <;> simp_all
theorem hv_inj {l r : List Bool} (hl : l.length = r.length) (h : hv l = hv r) : l = r := by
  have := num_inj (l := l.reverse) (r := r.reverse) (by simpa using hl) h
  exact List.reverse_inj.1 this
theorem cbits_prefix {ls : List Nat} (hf : Fits ls) {s n : Nat} (h : ls[s]? = some n) (h1 : 1 ≤ n) (B : List Bool) : cbits ls s <+: B ↔ At ls B s n := by
  have hl : (cbits ls s).length = n := by rw [cbits_length, getD_of h]
  constructor
  · intro hp
    have hle := hp.length_le
    refine ⟨h, h1, by omega, ?_⟩
    have := List.prefix_iff_eq_take.1 hp
    rw [hl] at this
    rw [← this, hv_cbits hf h h1]
  · rintro ⟨_, _, h2, h3⟩
    rw [List.prefix_iff_eq_take, hl]
    exact hv_inj (by rw [hl, List.length_take]; omega) (by rw [h3, hv_cbits hf h h1])
/-- What the reference's reading comes to. -/
def RefRes (ls : List Nat) (B : List Bool) (y n err : Nat) : Prop :=
  (err = 0 ∧ At ls B y n) ∨ (err = 6 ∧ y = 0 ∧ n = 0 ∧ (∀ s m, ¬ At ls B s m) ∧ ∃ s, B.length < (cbits ls s).length ∧ B <+: cbits ls s) ∨
  (err = 3 ∧ y = 0 ∧ n = 0 ∧ (∀ s m, ¬ At ls B s m) ∧ ∀ s, s < ls.length → B.length < (cbits ls s).length → ¬ B <+: cbits ls s)
/-- Without a gap, or without codes, or the one code 0. -/
def Gap (ls : List Nat) : Prop := Full ls ∨ (sorted ls 15).length = 0 ∨ ((sorted ls 15).length = 1 ∧ ls.count 1 = 1)
theorem no_at {ls : List Nat} {B : List Bool} {n : Nat} (hn : n ≤ B.length) (h : fin ls n ≤ hv (B.take n)) {s m : Nat} (hm : m ≤ n) : ¬ At ls B s m := by
  intro ha
  have h1 := hv_take B hm hn
  rw [ha.2.2.2] at h1
  have h2 := code_lt ha.1 ha.2.1
  have h3 := fin_double ls m (n - m)
  rw [show m + (n - m) = n by omega] at h3
  have h4 : fin ls m ≤ hv (B.take n) / 2 ^ (n - m) := by rw [Nat.le_div_iff_mul_le (Nat.two_pow_pos _), Nat.mul_comm]; omega
  omega
theorem res_ref {ls : List Nat} (hf : Fits ls) (hg : Gap ls) {B : List Bool} {x err n y m err' : Nat} (h : Res ls B x err n) (h' : RefRes ls B y m err') : x = y ∧ err = err' ∧ (err = 0 → n = m) := by
  rcases h with ⟨rfl, ha⟩ | ⟨rfl, rfl, hn, h15, hge, hz⟩ | ⟨rfl, rfl, hn, h15, hge, hz⟩
  · rcases h' with ⟨rfl, hb⟩ | ⟨_, _, _, hno, _⟩ | ⟨_, _, _, hno, _⟩
    · obtain ⟨h1, h2⟩ := ha.one hb; exact ⟨h1, rfl, fun _ => h2⟩
    · exact absurd ha (hno _ _)
    · exact absurd ha (hno _ _)
  · subst hn
    have hex : ∃ s, s < ls.length ∧ B.length < (cbits ls s).length ∧ B <+: cbits ls s := by
      rcases hg with hfull | h0 | ⟨h1, h2⟩
      · obtain ⟨s, m, hs, hm, hm15, hc⟩ := full_ext hfull (by omega) hge (hv_lt B)
        have hl : (cbits ls s).length = m := by rw [cbits_length, getD_of hs]
        refine ⟨s, (List.getElem?_eq_some_iff.1 hs).1, by omega, ?_⟩
        rw [List.prefix_iff_eq_take]
        refine hv_inj (by rw [List.length_take]; omega) ?_
        rw [hv_take _ (n := m) (by omega) (by omega), List.take_of_length_le (by omega), hv_cbits hf hs (by omega), hc]
      · obtain ⟨z, hm, hlt⟩ := hz
        have := sorted_lt hm hlt (hf.2 z hm); omega
      · obtain ⟨z, hm, hlt⟩ := hz
        have hz1 : z ≤ 1 := by
          rcases Nat.lt_or_ge 1 z with h | h
          · have h3 := sorted_lt hm h (hf.2 z hm)
            have h4 : (sorted ls 1).length = 0 + ls.count 1 := by rw [sorted, List.length_append, syms_length]; rfl
            omega
          · exact h
        have hB : B = [] := List.eq_nil_of_length_eq_zero (by omega)
        obtain ⟨s, hs, hsz⟩ := List.getElem_of_mem hm
        have hs? : ls[s]? = some z := by rw [List.getElem?_eq_getElem hs, hsz]
        refine ⟨s, hs, by rw [cbits_length, getD_of hs?]; omega, ?_⟩
        rw [hB]; exact List.nil_prefix
    rcases h' with ⟨rfl, hb⟩ | ⟨rfl, rfl, _, _, _⟩ | ⟨_, _, _, _, hno⟩
    · exact absurd hb (no_at (Nat.le_refl _) (by rwa [List.take_length]) hb.2.2.1)
    · exact ⟨rfl, rfl, fun h => by cases h⟩
    · obtain ⟨s, h1, h2, h3⟩ := hex
      exact absurd h3 (hno s h1 h2)
  · rcases h' with ⟨rfl, hb⟩ | ⟨rfl, rfl, _, _, s, h1, h2⟩ | ⟨rfl, rfl, _, _, _⟩
    · exact absurd hb (no_at hn hge (hz _ (List.mem_of_getElem? hb.1)))
    · exfalso
      rw [cbits_length] at h1
      have : ls.getD s 0 ≤ n := by
        rw [List.getD_eq_getElem?_getD]
        cases hs : ls[s]? with
        | none => exact Nat.zero_le _
        | some q => exact hz q (List.mem_of_getElem? hs)
      omega
    · exact ⟨rfl, rfl, fun h => by cases h⟩
theorem lowB_snoc : ∀ (n x : Nat), lowB (n + 1) x = lowB n x ++ [x.testBit n]
  | 0, x => by simp [lowB, Nat.testBit_zero]; rfl
  | n + 1, x => by rw [lowB, lowB_snoc n (x / 2), lowB, List.cons_append, Nat.testBit_succ]
end HuffM

/- Inflating, on lists of bits. -/
set_option linter.unusedVariables false
namespace InfM
open BitsM HuffM Go.Proofs.YtcnpekohkbjnnaaGreatDoor
/-- An error's number, or a value and the place behind it. -/
abbrev E (α : Type) := Except Nat (α × Nat)
/-- The next n bits. -/
def take (B : List Bool) (n p : Nat) : E Nat := if p + n ≤ B.length then .ok (num ((B.drop p).take n), p + n) else .error 6
/-- A longer code begins with these bits. -/
def Longer (ls : List Nat) (b : List Bool) : Prop := ∃ s, s < ls.length ∧ b.length < (cbits ls s).length ∧ b <+: cbits ls s
open Classical in
/-- The symbol whose code comes next. -/
noncomputable def sym (ls : List Nat) (B : List Bool) (p : Nat) : E Nat :=
  if h : ∃ x : Nat × Nat, HuffM.At ls (B.drop p) x.1 x.2 then .ok (h.choose.1, p + h.choose.2)
  else if Longer ls (B.drop p) then .error 6 else .error 3
theorem sym_at {ls : List Nat} {B : List Bool} {p s n : Nat} (h : HuffM.At ls (B.drop p) s n) : sym ls B p = .ok (s, p + n) := by
  have hx : ∃ x : Nat × Nat, HuffM.At ls (B.drop p) x.1 x.2 := ⟨(s, n), h⟩
  unfold sym
  rw [dif_pos hx]
  obtain ⟨h1, h2⟩ := hx.choose_spec.one h
  rw [h1, h2]
theorem ref_longer {ls : List Nat} (hf : Fits ls) (hg : Gap ls) {b : List Bool} {x err n : Nat} (h : Res ls b x err n) : (err = 0 ∧ HuffM.At ls b x n) ∨ (err = 6 ∧ x = 0 ∧ (∀ s m, ¬ HuffM.At ls b s m) ∧ Longer ls b) ∨ (err = 3 ∧ x = 0 ∧ (∀ s m, ¬ HuffM.At ls b s m) ∧ ¬ Longer ls b) := by
  by_cases h0 : err = 0
  · rcases h with h | ⟨h, _⟩ | ⟨h, _⟩
    · exact .inl h
    · omega
    · omega
  · have hno : ∀ s m, ¬ HuffM.At ls b s m := by
      intro s m ha
      rcases h with ⟨h, _⟩ | ⟨_, _, hn, _, hge, _⟩ | ⟨_, _, hn, _, hge, hz⟩
      · exact h0 h
      · subst hn; exact no_at (Nat.le_refl _) (by rwa [List.take_length]) ha.2.2.1 ha
      · exact no_at hn hge (hz _ (List.mem_of_getElem? ha.1)) ha
    rcases Classical.em (Longer ls b) with hl | hl
    · have href : RefRes ls b 0 0 6 := .inr (.inl ⟨rfl, rfl, rfl, hno, hl.imp fun _ h => h.2⟩)
      obtain ⟨h1, h2, _⟩ := res_ref hf hg h href
      exact .inr (.inl ⟨h2, h1, hno, hl⟩)
    · have href : RefRes ls b 0 0 3 := .inr (.inr ⟨rfl, rfl, rfl, hno, fun s h1 h2 h3 => hl ⟨s, h1, h2, h3⟩⟩)
      obtain ⟨h1, h2, _⟩ := res_ref hf hg h href
      exact .inr (.inr ⟨h2, h1, hno, hl⟩)
/-- What the table's reading comes to, as a function. -/
theorem sym_res {ls : List Nat} (hf : Fits ls) (hg : Gap ls) {B : List Bool} {p x err n : Nat} (h : Res ls (B.drop p) x err n) :
    (err = 0 ∧ sym ls B p = .ok (x, p + n) ∧ 1 ≤ n ∧ n ≤ (B.drop p).length ∧ x < ls.length) ∨ ((err = 6 ∨ err = 3) ∧ x = 0 ∧ sym ls B p = .error err) := by
  rcases ref_longer hf hg h with ⟨h1, h2⟩ | ⟨h1, h2, h3, h4⟩ | ⟨h1, h2, h3, h4⟩
  · exact .inl ⟨h1, sym_at h2, h2.2.1, h2.2.2.1, (List.getElem?_eq_some_iff.1 h2.1).1⟩
  · refine .inr ⟨.inl h1, h2, ?_⟩
    unfold sym
    rw [dif_neg (fun ⟨x, hx⟩ => h3 _ _ hx), if_pos h4, h1]
  · refine .inr ⟨.inr h1, h2, ?_⟩
    unfold sym
    rw [dif_neg (fun ⟨x, hx⟩ => h3 _ _ hx), if_neg h4, h1]

/-- Bytes out of bits. -/
def bytesAt (B : List Bool) (n p : Nat) : List UInt8 := (List.range n).map fun i => UInt8.ofNat (num ((B.drop (p + 8 * i)).take 8))
/-- A stored block. -/
def stored (most : Nat) (B : List Bool) (p0 : Nat) (out : List UInt8) : E (List UInt8) :=
  let p := (p0 + 7) / 8 * 8
  if p + 32 ≤ B.length then
    let n := num ((B.drop p).take 16)
    if n + num ((B.drop (p + 16)).take 16) ≠ 65535 then .error 3
    else if p + 32 + 8 * n ≤ B.length then
      if most < out.length + n then .error 2 else .ok (out ++ bytesAt B n (p + 32), p + 32 + 8 * n)
    else if most < out.length + (B.length - (p + 32)) / 8 then .error 2 else .error 6
  else .error 6
/-- The lengths of a dynamic block's codes. -/
noncomputable def clens (cl : List Nat) (tot : Nat) (B : List Bool) : Nat → Nat → List Nat → E (List Nat)
  | 0, _, _ => .error 99
  | f + 1, p, l =>
    if tot ≤ l.length then .ok (l, p)
    else match sym cl B p with
      | .error e => .error e
      | .ok (s, p) =>
        if s < 16 then clens cl tot B f p (l ++ [s])
        else if s = 16 ∧ l = [] then .error 3
        else match take B (if s = 16 then 2 else if s = 17 then 3 else 7) p with
          | .error e => .error e
          | .ok (n, p) =>
            let k := (if s = 16 ∨ s = 17 then 3 else 11) + n
            if tot < l.length + k then .error 3 else clens cl tot B f p (l ++ List.replicate k (if s = 16 then l.getLastD 0 else 0))
def places : List Nat := [16, 17, 18, 0, 8, 7, 9, 6, 10, 5, 11, 4, 12, 3, 13, 2, 14, 1, 15]
/-- The lengths of the codes of lengths: those in these places. -/
def firsts (B : List Bool) : List Nat → Nat → List Nat → E (List Nat)
  | [], p, l => .ok (l, p)
  | i :: r, p, l => match take B 3 p with
    | .error e => .error e
    | .ok (n, p) => firsts B r p (l.set i n)
def chkN (ls : List Nat) : Nat := chk (ls.map Int.ofNat)
noncomputable def tables (B : List Bool) (p : Nat) : E (List Nat × List Nat) :=
  match take B 14 p with
  | .error e => .error e
  | .ok (h, p) =>
    let nl := h % 32 + 257
    let nd := h / 32 % 32 + 1
    let nc := h / 1024 + 4
    if 286 < nl ∨ 30 < nd then .error 3
    else match firsts B (places.take nc) p (List.replicate 19 0) with
      | .error e => .error e
      | .ok (first, p) =>
        if chkN first ≠ 0 then .error 3
        else match clens first (nl + nd) B (nl + nd + 1) p [] with
          | .error e => .error e
          | .ok (l, p) => if l.getD 256 0 = 0 ∨ chkN (l.take nl) ≠ 0 ∨ chkN (l.drop nl) ≠ 0 then .error 3 else .ok ((l.take nl, l.drop nl), p)
def lenBase (i : Nat) : Nat × Nat := if i = 28 then (258, 0) else if i < 8 then (3 + i, 0) else (3 + (4 + i % 4) * 2 ^ (i / 4 - 1), i / 4 - 1)
def distBase (i : Nat) : Nat × Nat := if i < 4 then (1 + i, 0) else (1 + (2 + i % 2) * 2 ^ (i / 2 - 1), i / 2 - 1)
/-- n bytes from so far back. -/
def copy (back : Nat) : Nat → List UInt8 → List UInt8
  | 0, out => out
  | n + 1, out => copy back n (out ++ [out.getD (out.length - back) 0])
noncomputable def rep (dist : List Nat) (most : Nat) (B : List Bool) (s p : Nat) (out : List UInt8) : E (List UInt8) :=
  if 285 < s then .error 3
  else match take B (lenBase (s - 257)).2 p with
    | .error e => .error e
    | .ok (more, p) => match sym dist B p with
      | .error e => .error e
      | .ok (d, p) =>
        if 29 < d then .error 3
        else match take B (distBase d).2 p with
          | .error e => .error e
          | .ok (far, p) =>
            let n := (lenBase (s - 257)).1 + more
            let back := (distBase d).1 + far
            if out.length < back then .error 3
            else if most < out.length + n then .error 2 else .ok (copy back n out, p)
noncomputable def packed (lit dist : List Nat) (most : Nat) (B : List Bool) : Nat → Nat → List UInt8 → E (List UInt8)
  | 0, _, _ => .error 99
  | f + 1, p, out => match sym lit B p with
    | .error e => .error e
    | .ok (s, p) =>
      if s = 256 then .ok (out, p)
      else if s < 256 then if out.length = most then .error 2 else packed lit dist most B f p (out ++ [UInt8.ofNat s])
      else match rep dist most B s p out with
        | .error e => .error e
        | .ok (out, p) => packed lit dist most B f p out
def fixedLit : List Nat := List.replicate 144 8 ++ List.replicate 112 9 ++ List.replicate 24 7 ++ List.replicate 8 8
def fixedDist : List Nat := List.replicate 32 5
noncomputable def block (most : Nat) (B : List Bool) (kind p : Nat) (out : List UInt8) : E (List UInt8) :=
  if kind = 0 then stored most B p out
  else if kind = 1 then packed fixedLit fixedDist most B (B.length + 1) p out
  else if kind = 2 then match tables B p with
    | .error e => .error e
    | .ok ((lit, dist), p) => packed lit dist most B (B.length + 1) p out
  else .error 3
noncomputable def blocks (most : Nat) (B : List Bool) : Nat → Nat → List UInt8 → E (List UInt8)
  | 0, _, _ => .error 99
  | f + 1, p, out => match take B 3 p with
    | .error e => .error e
    | .ok (h, p) => match block most B (h / 2) p out with
      | .error e => .error e
      | .ok (out, p) => if h % 2 = 1 then .ok (out, p) else blocks most B f p out
/-- What the bits say, within so many bytes. -/
noncomputable def inf (most : Nat) (B : List Bool) : E (List UInt8) := blocks most B (B.length + 1) 0 []
/-- .. of a text from a place on: what comes out, how many bytes are taken, the error's number. -/
noncomputable def inflate (s : List UInt8) (at_ most : Int) : List UInt8 × Nat × Nat :=
  if at_ < 0 ∨ (s.length : Int) < at_ ∨ most < 0 ∨ 65536 < most then ([], 0, 1)
  else match inf most.toNat (sbits (s.drop at_.toNat)) with
    | .error e => ([], 0, e)
    | .ok (out, p) => (out, (p + 7) / 8, 0)
end InfM
