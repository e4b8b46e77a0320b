/- What block1 of the package sha does. Conditions: the words are five, in a slice of the call's own; the text has 64 bytes. -/
import Derived.Test.YtoagdpjickippaaDoorShaA
import Derived.Test.YtoagdpjickippaaDoorVcSls
set_option linter.unusedVariables false
namespace Go.Proofs.YtoagdpjickippaaDoor
open Go Vc ShaM Go.Proofs

theorem ext_toList (s : ByteArray) (a b : Nat) : (s.extract a b).data.toList = (s.data.toList.drop a).take (b - a) := by
  rw [ByteArray.data_extract, Array.toList_extract]
theorem be_drop (l : List UInt8) (a : Nat) : be (l.drop a) 0 = be l a := by
  unfold be; simp [List.getD_eq_getElem?_getD, List.getElem?_drop]
theorem neg32 : BitVec.ofInt 32 (if IntKind.signed IntKind.u32 = true then -1 else Int.ofNat (2 ^ 32 - Nat.succ 0)) = BitVec.allOnes 32 := by decide
theorem ones32 : BitVec.ofInt 32 4294967295 = BitVec.allOnes 32 := by decide

/-- The array of a schedule while it is made. -/
def arr (E : Nat → List W) (n k : Nat) : List W := E k ++ List.replicate (n - k) 0
theorem arr_set {E : Nat → List W} {n k : Nat} {x : W} (hE : (E k).length = k) (hk : k < n) (h : E (k + 1) = E k ++ [x]) : (arr E n k).set k x = arr E n (k + 1) := by
  unfold arr
  rw [List.set_append_right _ _ (by omega), hE, Nat.sub_self, h, List.append_assoc, show n - k = (n - (k + 1)) + 1 by omega, List.replicate_succ]
  rfl
theorem arr_length {E : Nat → List W} {n k : Nat} (hE : (E k).length = k) (hk : k ≤ n) : (arr E n k).length = n := by
  unfold arr; rw [List.length_append, List.length_replicate]; omega
theorem arr_getD {E : Nat → List W} {n k j : Nat} (hE : (E k).length = k) (hj : j < k) : (arr E n k).getD j 0 = (E k).getD j 0 := by
  unfold arr
  rw [List.getD_eq_getElem?_getD, List.getElem?_append_left (by omega), List.getD_eq_getElem?_getD]
theorem own_get {w : World} {base : Nat} {e : TypeId} {l : Sl} {xs : List W} (h : Own w base e l (uv xs)) {i : Nat} (hi : i < xs.length) : ∃ x, l.a = some x ∧ w.cell? (x.add i) = some (.int .u32 ((xs.getD i 0).toNat : Int)) :=
  h.reads i _ (uv_get hi)
theorem own_put {w : World} {base : Nat} {e : TypeId} {l : Sl} {xs : List W} (h : Own w base e l (uv xs)) {i : Nat} (hi : i < xs.length) (x : W) :
    ∃ y, l.a = some y ∧ Wr w (y.add i) ∧ ∀ w2, w2 = w.setCell (y.add i) (.int .u32 (x.toNat : Int)) → Own w2 base e l (uv (xs.set i x)) ∧ Fr (Vc.At l) w w2 := by
  obtain ⟨y, hy, hc, hw, hs⟩ := h.set (i := i) (by rw [uv_len]; exact hi)
  refine ⟨y, hy, hw, fun w2 hw2 => ?_⟩
  obtain ⟨h1, h2⟩ := hs (.int .u32 (x.toNat : Int))
  rw [hw2]
  exact ⟨by rw [uv, List.map_set]; exact h1, h2⟩

theorem f1_eq (i : Nat) (b c d : W) : (i < 20 → f1 i b c d = (b &&& c) ||| (~~~b &&& d) ∧ k1 i = 0x5a827999#32) ∧ (20 ≤ i → i < 40 → f1 i b c d = b ^^^ c ^^^ d ∧ k1 i = 0x6ed9eba1#32) ∧
    (40 ≤ i → i < 60 → f1 i b c d = (b &&& c) ||| (b &&& d) ||| (c &&& d) ∧ k1 i = 0x8f1bbcdc#32) ∧ (60 ≤ i → f1 i b c d = b ^^^ c ^^^ d ∧ k1 i = 0xca62c1d6#32) := by
  unfold f1 k1
  refine ⟨fun h => ?_, fun h h2 => ?_, fun h h2 => ?_, fun h => ?_⟩
  · rw [if_pos h, if_pos h]; exact ⟨rfl, rfl⟩
  · rw [if_neg (by omega), if_pos h2, if_neg (by omega), if_pos h2]; exact ⟨rfl, rfl⟩
  · rw [if_neg (by omega), if_neg (by omega), if_pos h2, if_neg (by omega), if_neg (by omega), if_pos h2]; exact ⟨rfl, rfl⟩
  · rw [if_neg (by omega), if_neg (by omega), if_neg (by omega), if_neg (by omega), if_neg (by omega), if_neg (by omega)]; exact ⟨rfl, rfl⟩

theorem block1_spec {w : World} {base : Nat} {l : Sl} {h : List W} (ho : Own w base T_uint32 l (uv h)) (hl : h.length = 5) (p : ByteArray) (hp : p.size = 64) :
    Calls Tryd.prog F_sha_block1 #[.slice l.a l.len l.cap, .string p] w fun e w' => e = .returned (.tuple #[]) ∧ Own w' base T_uint32 l (uv (block1 h p.data.toList)) ∧ Fr (Vc.At l) w w' := by
  refine vc_sha_block1_ok (R := fun v w' => v = .tuple #[] ∧ Own w' base T_uint32 l (uv (block1 h p.data.toList)) ∧ Fr (Vc.At l) w w') ?_ (fun v w' h => ⟨by rw [h.1], h.2⟩)
  intro w1 hw1
  have f1' : Fr (fun _ => False) w w1 := hw1 ▸ Fr.alloc _ _ _
  generalize hB : w.heap.size = wb at hw1
  obtain ⟨P, hPd⟩ : ∃ P, p.data.toList = P := ⟨_, rfl⟩
  rw [hPd]
  have hE : ∀ k, (E1 P k).length = k := E1_length P
  have o1 : Own w1 wb T_80_uint32 ⟨some ⟨wb, 0, none⟩, 80, 80⟩ (uv (arr (E1 P) 80 0)) := by
    refine ⟨rfl, .inr ⟨wb, _, rfl, Nat.le_refl _, by rw [hw1, ← hB]; exact alloc_new _ _, Nat.le_refl _, by simp [maxLen], rfl, rfl⟩⟩
  have hlen : l.len = 5 := by rw [ho.len, uv_len, hl]
  refine ⟨fun i w' => ∃ k : Nat, k ≤ 80 ∧ i = (k : Int) ∧ Own w' wb T_80_uint32 ⟨some ⟨wb, 0, none⟩, 80, 80⟩ (uv (arr (E1 P) 80 k)) ∧ Fr (fun _ => False) w w', fun i _ => (80 - i).toNat, ⟨0, by decide, rfl, o1, f1'⟩, ?_⟩
  rintro i w5 ⟨k, hk, rfl, o5, f5⟩
  have hAl := arr_length (n := 80) (hE k) hk
  have e1 : IntKind.i64.wrap ((k : Int) + 1) = ((k + 1 : Nat) : Int) := by rw [wrap_i64 (by omega) (by omega)]; omega
  have hX : ∀ {w' : World}, Fr (fun _ => False) w w' → ∀ {w2 : World}, Fr (Vc.At ⟨some ⟨wb, 0, none⟩, 80, 80⟩) w' w2 → Fr (fun _ => False) w w2 := fun {w'} hf {w2} h2 => hf.trans h2 fun q hq ⟨y, hy, e⟩ => by cases hy; simp only at e; omega
  refine ⟨fun hlt => ?_, fun hge => ?_⟩
  · have hlt := of_decide_eq_true hlt
    have hk80 : k < 80 := by omega
    refine ⟨fun h16 => ?_, fun h16 => ?_⟩
    · have h16 := of_decide_eq_true h16
      have e4 : IntKind.i64.wrap (4 * (k : Int)) = ((4 * k : Nat) : Int) := by rw [wrap_i64 (by omega) (by omega)]; omega
      rw [e4, Int.toNat_natCast]
      refine ⟨⟨by omega, by omega⟩, ?_⟩
      refine (word_spec _ (by rw [ByteArray.size_extract]; omega) w5).mono ?_
      rintro e w7 ⟨rfl, d7⟩
      refine ⟨_, rfl, ⟨by omega, by omega⟩, ?_⟩
      have hx : be (p.extract (4 * k) p.size).data.toList 0 = be P (4 * k) := by
        rw [ext_toList, hPd, List.take_of_length_le (by rw [List.length_drop, ← hPd]; simp), be_drop]
      rw [hx, Int.toNat_natCast, Nat.mul_one, e1]
      obtain ⟨y, hy, hwr, hset⟩ := own_put (o5.drew d7) (i := k) (by omega) (be P (4 * k))
      cases hy
      refine ⟨hwr, fun w9 hw9 => ?_⟩
      obtain ⟨o9, f9⟩ := hset w9 hw9
      rw [arr_set (hE k) hk80 (E1_low P (by omega))] at o9
      exact ⟨⟨k + 1, by omega, rfl, o9, hX (f5.trans' (.drew _ d7)) f9⟩, by dsimp only; omega⟩
    · have h16 := of_decide_eq_false h16
      intro w10 d10
      have o10 := o5.drew d10
      have g : ∀ j, j < k → w10.cell? (Addr.add ⟨wb, 0, none⟩ j) = some (.int .u32 (((E1 P k).getD j 0).toNat : Int)) := fun j hj => by
        obtain ⟨y, hy, hc⟩ := own_get o10 (i := j) (by omega)
        cases hy
        rw [arr_getD (hE k) hj] at hc; exact hc
      have s3 : (IntKind.i64.wrap ((k : Int) - 3)).toNat = k - 3 := by rw [wrap_i64 (by omega) (by omega)]; omega
      have s8 : (IntKind.i64.wrap ((k : Int) - 8)).toNat = k - 8 := by rw [wrap_i64 (by omega) (by omega)]; omega
      have s14 : (IntKind.i64.wrap ((k : Int) - 14)).toNat = k - 14 := by rw [wrap_i64 (by omega) (by omega)]; omega
      have s16 : (IntKind.i64.wrap ((k : Int) - 16)).toNat = k - 16 := by rw [wrap_i64 (by omega) (by omega)]; omega
      have r3 : IntKind.i64.wrap ((k : Int) - 3) = ((k - 3 : Nat) : Int) := by rw [wrap_i64 (by omega) (by omega)]; omega
      have r8 : IntKind.i64.wrap ((k : Int) - 8) = ((k - 8 : Nat) : Int) := by rw [wrap_i64 (by omega) (by omega)]; omega
      have r14 : IntKind.i64.wrap ((k : Int) - 14) = ((k - 14 : Nat) : Int) := by rw [wrap_i64 (by omega) (by omega)]; omega
      have r16 : IntKind.i64.wrap ((k : Int) - 16) = ((k - 16 : Nat) : Int) := by rw [wrap_i64 (by omega) (by omega)]; omega
      refine ⟨fun w => w = w10, rfl, by rw [r3]; exact ⟨by omega, by omega⟩, _, fun w hw => by rw [hw, s3, Nat.mul_one]; exact g _ (by omega), by rw [r8]; exact ⟨by omega, by omega⟩, _, fun w hw => by rw [hw, s8, Nat.mul_one]; exact g _ (by omega),
        by rw [r14]; exact ⟨by omega, by omega⟩, _, fun w hw => by rw [hw, s14, Nat.mul_one]; exact g _ (by omega), by rw [r16]; exact ⟨by omega, by omega⟩, _, fun w hw => by rw [hw, s16, Nat.mul_one]; exact g _ (by omega), ?_⟩
      simp only [u_of, u_wrap]
      refine (rot_spec _ 1 1 (by decide) (by decide) w10).mono ?_
      rintro e w21 ⟨rfl, rfl⟩
      refine ⟨_, rfl, rfl, ⟨by omega, by omega⟩, ?_⟩
      rw [← nxt1_at (hE k), Int.toNat_natCast, Nat.mul_one, e1]
      obtain ⟨y, hy, hwr, hset⟩ := own_put o10 (i := k) (by omega) (nxt1 (E1 P k))
      cases hy
      refine ⟨hwr, fun w9 hw9 => ?_⟩
      obtain ⟨o9, f9⟩ := hset w9 hw9
      rw [arr_set (hE k) hk80 (E1_high P (by omega))] at o9
      exact ⟨⟨k + 1, by omega, rfl, o9, hX (f5.trans' (.drew _ d10)) f9⟩, by omega⟩
  have hge := of_decide_eq_false hge
  have : k = 80 := by omega
  subst this
  have hfull : arr (E1 P) 80 80 = ext1 64 (words P) := by unfold arr; rw [Nat.sub_self, List.replicate_zero, List.append_nil, E1_ext P (by decide)]
  rw [hfull] at o5 hAl
  obtain ⟨h0, h1, h2, h3, h4, rfl⟩ : ∃ a b c d e, h = [a, b, c, d, e] := by
    match h, hl with
    | [a, b, c, d, e], _ => exact ⟨_, _, _, _, _, rfl⟩
  have oh := ho.keep f5 (by simp)
  have rd : ∀ {w' : World}, Own w' base T_uint32 l (uv [h0, h1, h2, h3, h4]) → ∃ x, l.a = some x ∧ w'.cell? (x.add 0) = some (.int .u32 (h0.toNat : Int)) ∧ w'.cell? (x.add 1) = some (.int .u32 (h1.toNat : Int)) ∧ w'.cell? (x.add 2) = some (.int .u32 (h2.toNat : Int)) ∧
      w'.cell? (x.add 3) = some (.int .u32 (h3.toNat : Int)) ∧ w'.cell? (x.add 4) = some (.int .u32 (h4.toNat : Int)) := fun {w'} o => by
    obtain ⟨x, hx, c0⟩ := own_get o (i := 0) (by simp)
    obtain ⟨x1, hx1, c1⟩ := own_get o (i := 1) (by simp)
    obtain ⟨x2, hx2, c2⟩ := own_get o (i := 2) (by simp)
    obtain ⟨x3, hx3, c3⟩ := own_get o (i := 3) (by simp)
    obtain ⟨x4, hx4, c4⟩ := own_get o (i := 4) (by simp)
    rw [hx] at hx1 hx2 hx3 hx4
    cases hx1; cases hx2; cases hx3; cases hx4
    exact ⟨x, hx, c0, c1, c2, c3, c4⟩
  obtain ⟨x, hx, c0, c1, c2, c3, c4⟩ := rd oh
  rw [hlen]
  refine ⟨⟨by decide, by decide⟩, x, hx, _, c0, ⟨by decide, by decide⟩, x, hx, _, c1, ⟨by decide, by decide⟩, x, hx, _, c2, ⟨by decide, by decide⟩, x, hx, _, c3, ⟨by decide, by decide⟩, x, hx, _, c4, fun w34 d34 => ?_⟩
  have o34 := o5.drew d34
  have oh34 := oh.drew d34
  have hload := load_agg (P := Tryd.prog) (t := T_80_uint32) (w := w34) (a := ⟨wb, 0, none⟩) (vs := uv (ext1 64 (words P))) (agg_of (by kernel_rfl)) (by rw [uv_len, hAl]; kernel_rfl) (fun j v hv => by
    obtain ⟨y, hy, hc⟩ := o34.reads j v hv
    cases hy; exact hc)
  refine ⟨_, hload, ?_⟩
  obtain ⟨S, hS⟩ : ∃ S, ext1 64 (words P) = S := ⟨_, rfl⟩
  rw [hS] at hAl ⊢
  have hbl : block1 [h0, h1, h2, h3, h4] P = adds [h0, h1, h2, h3, h4] (rds1 0 S [h0, h1, h2, h3, h4]) := by unfold block1; rw [hS]
  rw [hbl]
  refine ⟨fun a b c d e i w' => w' = w34 ∧ ∃ (A B C D E : W) (k : Nat), k ≤ 80 ∧ i = (k : Int) ∧ a = (A.toNat : Int) ∧ b = (B.toNat : Int) ∧ c = (C.toNat : Int) ∧ d = (D.toNat : Int) ∧ e = (E.toNat : Int) ∧ rds1 0 S [h0, h1, h2, h3, h4] = rds1 k (S.drop k) [A, B, C, D, E],
    fun _ _ _ _ _ i _ => (80 - i).toNat, ⟨rfl, h0, h1, h2, h3, h4, 0, by decide, rfl, rfl, rfl, rfl, rfl, rfl, rfl⟩, ?_⟩
  rintro a b c d e i w44 ⟨rfl, A, B, C, D, E, k, hk, rfl, rfl, rfl, rfl, rfl, rfl, hv⟩
  have e1 : IntKind.i64.wrap ((k : Int) + 1) = ((k + 1 : Nat) : Int) := by rw [wrap_i64 (by omega) (by omega)]; omega
  refine ⟨fun hlt => ?_, fun hge => ?_⟩
  · have hlt := of_decide_eq_true hlt
    have hk80 : k < 80 := by omega
    have hidx := index_agg (P := Tryd.prog) (w := w44) T_80_uint32 T_uint32 80 (uv S) .i64 k (by kernel_rfl) (by kernel_rfl) (by rw [uv_len]; omega) hk80 (by kernel_rfl)
    have hget : (uv S).getD k undef = .int .u32 ((S.getD k 0).toNat : Int) := by rw [List.getD_eq_getElem?_getD, uv_get (by omega)]; rfl
    rw [hget] at hidx
    refine ⟨w44, _, hidx, ?_⟩
    rw [rds1_step (by omega)] at hv
    have etd : IntKind.i64.wrap (Int.tdiv (k : Int) 20) = ((k / 20 : Nat) : Int) := by rw [Int.tdiv_eq_ediv_of_nonneg (by omega), wrap_i64 (by omega) (by omega)]; omega
    rw [etd]
    obtain ⟨q1, q2, q3, q4⟩ := f1_eq k B C D
    refine ⟨fun f q w' => f = ((f1 k B C D).toNat : Int) ∧ q = ((k1 k).toNat : Int) ∧ w' = w44, ⟨by decide, fun h => ?_, fun h => ⟨fun h => ?_, fun h' => ⟨fun h => ?_, fun h'' => ?_⟩⟩⟩, ?_⟩
    · have h : ((k / 20 : Nat) : Int) = 0 := by simpa using h
      obtain ⟨g1, g2⟩ := q1 (by omega)
      rw [g1, g2, neg32]
      exact ⟨by simp only [u_of, u_wrap, BitVec.allOnes_xor], rfl, rfl⟩
    · have h : ((k / 20 : Nat) : Int) = 1 := by simpa using h
      obtain ⟨g1, g2⟩ := q2 (by omega) (by omega)
      rw [g1, g2]
      exact ⟨by simp only [u_of, u_wrap], rfl, rfl⟩
    · have h : ((k / 20 : Nat) : Int) = 2 := by simpa using h
      obtain ⟨g1, g2⟩ := q3 (by omega) (by omega)
      rw [g1, g2]
      exact ⟨by simp only [u_of, u_wrap], rfl, rfl⟩
    · have h : ¬ ((k / 20 : Nat) : Int) = 0 := by simpa using h
      have h' : ¬ ((k / 20 : Nat) : Int) = 1 := by simpa using h'
      have h'' : ¬ ((k / 20 : Nat) : Int) = 2 := by simpa using h''
      obtain ⟨g1, g2⟩ := q4 (by omega)
      rw [g1, g2]
      exact ⟨by simp only [u_of, u_wrap], rfl, rfl⟩
    rintro f q w50 ⟨rfl, rfl, rfl⟩
    refine (rot_spec A 5 5 (by decide) (by decide) w50).mono ?_
    rintro e w52 ⟨rfl, rfl⟩
    refine ⟨_, rfl, ?_⟩
    refine (rot_spec B 30 30 (by decide) (by decide) w52).mono ?_
    rintro e w55 ⟨rfl, rfl⟩
    refine ⟨_, rfl, ?_⟩
    rw [e1, u_add, u_add, u_add, u_add]
    exact ⟨⟨rfl, _, _, _, _, _, k + 1, by omega, rfl, rfl, rfl, rfl, rfl, rfl, hv⟩, by dsimp only; omega⟩
  · have hge := of_decide_eq_false hge
    have : k = 80 := by omega
    subst this
    rw [List.drop_eq_nil_of_le (by omega)] at hv
    have hv : rds1 0 S [h0, h1, h2, h3, h4] = [A, B, C, D, E] := hv
    rw [hv]
    have fin : adds [h0, h1, h2, h3, h4] [A, B, C, D, E] = [h0 + A, h1 + B, h2 + C, h3 + D, h4 + E] := rfl
    rw [fin]
    obtain ⟨x, hx, c0, c1, c2, c3, c4⟩ := rd oh34
    have P0 := own_put oh34 (i := 0) (by simp) (h0 + A)
    obtain ⟨y, hy, hwr, hset⟩ := P0
    rw [hx] at hy; cases hy
    refine ⟨⟨by decide, by decide⟩, x, hx, _, c0, ⟨by decide, by decide⟩, x, hx, hwr, ?_⟩
    rw [u_add]
    intro w60 hw60
    obtain ⟨o60, f60⟩ := hset w60 hw60
    obtain ⟨y, hy, c1⟩ := own_get o60 (i := 1) (by simp)
    rw [hx] at hy; cases hy
    obtain ⟨y, hy, hwr, hset⟩ := own_put o60 (i := 1) (by simp) (h1 + B)
    rw [hx] at hy; cases hy
    refine ⟨⟨by decide, by decide⟩, x, hx, _, c1, ⟨by decide, by decide⟩, x, hx, hwr, ?_⟩
    rw [show ([h0, h1, h2, h3, h4].set 0 (h0 + A)).getD 1 0 = h1 from rfl, u_add]
    intro w64 hw64
    obtain ⟨o64, f64⟩ := hset w64 hw64
    obtain ⟨y, hy, c2⟩ := own_get o64 (i := 2) (by simp)
    rw [hx] at hy; cases hy
    obtain ⟨y, hy, hwr, hset⟩ := own_put o64 (i := 2) (by simp) (h2 + C)
    rw [hx] at hy; cases hy
    refine ⟨⟨by decide, by decide⟩, x, hx, _, c2, ⟨by decide, by decide⟩, x, hx, hwr, ?_⟩
    rw [show (([h0, h1, h2, h3, h4].set 0 (h0 + A)).set 1 (h1 + B)).getD 2 0 = h2 from rfl, u_add]
    intro w68 hw68
    obtain ⟨o68, f68⟩ := hset w68 hw68
    obtain ⟨y, hy, c3⟩ := own_get o68 (i := 3) (by simp)
    rw [hx] at hy; cases hy
    obtain ⟨y, hy, hwr, hset⟩ := own_put o68 (i := 3) (by simp) (h3 + D)
    rw [hx] at hy; cases hy
    refine ⟨⟨by decide, by decide⟩, x, hx, _, c3, ⟨by decide, by decide⟩, x, hx, hwr, ?_⟩
    rw [show ((([h0, h1, h2, h3, h4].set 0 (h0 + A)).set 1 (h1 + B)).set 2 (h2 + C)).getD 3 0 = h3 from rfl, u_add]
    intro w72 hw72
    obtain ⟨o72, f72⟩ := hset w72 hw72
    obtain ⟨y, hy, c4⟩ := own_get o72 (i := 4) (by simp)
    rw [hx] at hy; cases hy
    obtain ⟨y, hy, hwr, hset⟩ := own_put o72 (i := 4) (by simp) (h4 + E)
    rw [hx] at hy; cases hy
    refine ⟨⟨by decide, by decide⟩, x, hx, _, c4, ⟨by decide, by decide⟩, x, hx, hwr, ?_⟩
    rw [show (((([h0, h1, h2, h3, h4].set 0 (h0 + A)).set 1 (h1 + B)).set 2 (h2 + C)).set 3 (h3 + D)).getD 4 0 = h4 from rfl, u_add]
    intro w76 hw76
    obtain ⟨o76, f76⟩ := hset w76 hw76
    exact ⟨rfl, o76, ((((((f5.mono (by simp)).trans' (.drew _ d34)).trans' f60).trans' f64).trans' f68).trans' f72).trans' f76⟩
end Go.Proofs.YtoagdpjickippaaDoor
