/- What the reference's Sum1 does. Conditions: the text is short enough for a slice to hold (2 to the 40th). -/
import Derived.Test.YtcboiljbkkleiaaShaG
set_option linter.unusedVariables false
namespace Vc
open Go
/-- What the slice held is read through it after an append, too. -/
theorem append_old {P : Program} {t e : TypeId} {z : Value} {bytes : Nat} {w : World} {base : Nat} {l : Sl} {xs : List Value} (el : El P t e z bytes) (h : Own w base e l xs) {v : Value} (hv : v.oneCell' = true)
    (hm : xs.length + 1 ≤ maxLen) (hb : (xs.length + 1) * bytes ≤ 140737488355328) {w2 : World} (hw2 : w2 = w.alloc (.cells #[v] e)) {l' : Sl} {w' : World}
    (hr : (Builtin.append_ #[t, t] t #[.slice l.a l.len l.cap, .slice (some ⟨w.heap.size, 0, none⟩) 1 1]).run P w2 = .ok (.slice l'.a l'.len l'.cap) w') : Reads w' l.a xs := by
  obtain ⟨i, hi, hi2⟩ := Option.map_eq_some_iff.1 el.info
  simp only [Prod.mk.injEq] at hi2
  obtain ⟨hz, hs1, hby⟩ := hi2
  have hlen := h.1
  have hn : ∀ j u, ([v] : List Value)[j]? = some u → w2.cell? ((⟨w.heap.size, 0, none⟩ : Addr).add j) = some u := fun j u hu => by
    cases j with
    | zero => simp at hu; subst hu; rw [hw2, add_lit, cell_blk (alloc_new w _)]; rfl
    | succ j => simp at hu
  have h2 : Own w2 base e l xs := hw2 ▸ h.keep (.alloc (fun _ => False) _ _) (by simp)
  rcases h2.2 with ⟨ha, hl0, hc0⟩ | ⟨g, cur, ha, hbg, hg, hl, hmx, hs, ht⟩
  · have : xs = [] := List.eq_nil_of_length_eq_zero (by omega)
    rw [this]; exact .nil _ _
  · have hml : maxLen ≤ 9223372036854775807 := by decide
    by_cases hroom : l.len + 1 ≤ l.cap
    · have hr2 := run_append_room (P := P) w2 t t e i el.sl hi g l.len l.cap cur hg ⟨w.heap.size, 0, none⟩ 1 1 [v] (by rw [hs1]; rfl) hn (by simpa using hv) hroom (by rw [hs1]; simp; omega)
      rw [← ha, hr] at hr2
      simp only [Result.ok.injEq] at hr2
      rw [hr2.2, ha]
      intro j u hu
      refine ⟨_, rfl, ?_⟩
      rw [add_lit, Nat.zero_add, cell_blk (setRow_heap w2 g cur _ e (0, 0) hg)]
      rw [hs1]
      have hjl : j < xs.length := (List.getElem?_eq_some_iff.1 hu).1
      rw [← ht] at hu
      simp only [Nat.mul_one]
      rw [List.getElem?_toArray, List.append_assoc, List.getElem?_append_left (by rw [List.length_take, Array.length_toList]; omega)]
      exact hu
    · have holds : ∀ j u, xs[j]? = some u → w2.cell? ((⟨g, 0, none⟩ : Addr).add j) = some u := fun j u hu => by
        obtain ⟨q, hq, hc⟩ := h2.reads j u hu
        rw [ha] at hq; cases hq; exact hc
      have hr2 := run_append_grow (P := P) w2 t t e i z el.sl hi hz ⟨g, 0, none⟩ l.len l.cap xs (by rw [hs1]; omega) holds ⟨w.heap.size, 0, none⟩ 1 1 [v] (by rw [hs1]; rfl) hn (by omega) (by omega) (growslice_fits (by omega) (by rw [hby, ← hlen]; exact hb))
      rw [← ha, hr] at hr2
      simp only [Result.ok.injEq] at hr2
      rw [hr2.2]
      exact h2.reads.keep (X := fun _ => False) ⟨rfl, rfl, rfl, by simp, fun k hk _ => alloc_old w2.drew _ hk⟩ (by simp)
end Vc
namespace Go.Proofs.Ytcboiljbkkleiaa
open Go Vc BitsM ShaM Go.Proofs

theorem rsum1_spec (x : ByteArray) (hx : x.size + 200 ≤ 1099511627776) (w : World) : Calls Try.prog F_cartularyref02_Sum1 #[.string x] w fun e w' => e = .returned (.string ⟨(digest block1 start1 x.data.toList).toArray⟩) ∧ Fr (fun _ => False) w w' := by
  refine vc_cartularyref02_Sum1_ok (R := fun v w' => v = .string ⟨(digest block1 start1 x.data.toList).toArray⟩ ∧ Fr (fun _ => False) w w') ?_ (fun v w' h => ⟨by rw [h.1], h.2⟩)
  refine (rpad_spec x (by omega) w).mono ?_
  rintro e w2 ⟨l3, rfl, o3, f2⟩
  refine ⟨l3, rfl, ?_⟩
  intro w4 hw4
  have f4 : Fr (fun _ => False) w2 w4 := hw4 ▸ Fr.alloc _ _ _
  have oh4 : Own w4 w2.heap.size T_uint32 ⟨some ⟨w2.heap.size, 0, none⟩, 5, 5⟩ (uv start1) := ⟨rfl, .inr ⟨w2.heap.size, _, rfl, Nat.le_refl _, hw4 ▸ alloc_new _ _, Nat.le_refl _, by simp [maxLen], rfl, rfl⟩⟩
  have hpl := pad_length x.data.toList
  have hplen : (pad x.data.toList).length ≤ x.size + 200 := by
    unfold pad; simp; omega
  have hdg : digest block1 start1 x.data.toList = out (blocks block1 ((pad x.data.toList).length / 64) start1 (pad x.data.toList)) := rfl
  rw [hdg]
  generalize pad x.data.toList = P at o3 hpl hplen ⊢
  obtain ⟨Q, hQ⟩ : ∃ Q, P.length = 64 * Q := ⟨P.length / 64, by omega⟩
  have hll3 : l3.len = 64 * Q := by rw [o3.len, List.length_map, hQ]
  have hcap3 := o3.cap
  rw [show P.length / 64 = Q by omega]
  have o34 := o3.keep f4 (by simp)
  refine ⟨fun l i w' => ∃ k : Nat, k ≤ Q ∧ i = ((64 * k : Nat) : Int) ∧ Own w' w2.heap.size T_uint32 l (uv (blocks block1 k start1 P)) ∧ Fr (fun _ => False) w2 w', fun _ i _ => ((64 * Q : Nat) - i).toNat, ⟨0, Nat.zero_le _, rfl, oh4, f4⟩, ?_⟩
  rintro l7 i w9 ⟨k, hk, rfl, oh, f9⟩
  have hblen := blocks_length (f := block1) (k := 5) (fun h p hl => by rw [block1_length]; exact hl) k start1 P rfl
  refine ⟨fun hlt => ?_, fun hge => ?_⟩
  · have hlt := of_decide_eq_true hlt
    have hkQ : k < Q := by omega
    have e1 : IntKind.i64.wrap (((64 * k : Nat) : Int) + 64) = ((64 * (k + 1) : Nat) : Int) := by rw [wrap_i64 (by omega) (by omega)]; omega
    have hcm : l3.cap ≤ maxLen := by
      rcases o3.2 with ⟨_, _, h⟩ | ⟨_, _, _, _, _, _, _, _, h, _⟩
      · rw [h]; decide
      · exact h
    rw [e1, Int.toNat_natCast, Int.toNat_natCast, show 64 * (k + 1) - 64 * k = 64 by omega]
    refine ⟨⟨by omega, by omega, by omega⟩, ?_⟩
    obtain ⟨BB, hBB⟩ : ∃ BB, (P.drop (64 * k)).take 64 = BB := ⟨_, rfl⟩
    have hBl : BB.length = 64 := by rw [← hBB, List.length_take, List.length_drop]; omega
    have hrB : Reads w9 (subA l3.a l3.cap (64 * k) 1) (byteV BB) := by
      have := (((o3.keep f9 (by simp)).reads).sub (cap := l3.cap) (by rw [List.length_map, hQ]; omega) (64 * k)).take 64
      rw [← hBB, byteV, List.map_take, List.map_drop]; exact this
    refine (rwords_spec (c := l3.cap - 64 * k) hrB hBl (by decide)).mono ?_
    rintro e w11 ⟨l12, rfl, o12, f11⟩
    refine ⟨l12, rfl, ?_⟩
    have hE : ∀ k, (E1 BB k).length = k := E1_length BB
    refine ⟨fun l j w' => ∃ q : Nat, 16 ≤ q ∧ q ≤ 80 ∧ j = (q : Int) ∧ Own w' w9.heap.size T_uint32 l (uv (E1 BB q)) ∧ Fr (fun _ => False) w9 w', fun _ j _ => (80 - j).toNat, ⟨16, by decide, by decide, rfl, by rw [E1_ext BB (by decide)]; exact o12, f11⟩, ?_⟩
    rintro l15 j w17 ⟨q, hq16, hq80, rfl, o15, f17⟩
    have hl15 : l15.len = q := by rw [o15.len, uv_len, hE]
    refine ⟨fun hlt => ?_, fun hge => ?_⟩
    · have hlt := of_decide_eq_true hlt
      intro w18 d18
      have o18 := o15.drew d18
      have f18 := f17.trans' (.drew _ d18)
      have r3 : IntKind.i64.wrap ((q : Int) - 3) = ((q - 3 : Nat) : Int) := by rw [wrap_i64 (by omega) (by omega)]; omega
      have r8 : IntKind.i64.wrap ((q : Int) - 8) = ((q - 8 : Nat) : Int) := by rw [wrap_i64 (by omega) (by omega)]; omega
      have r14 : IntKind.i64.wrap ((q : Int) - 14) = ((q - 14 : Nat) : Int) := by rw [wrap_i64 (by omega) (by omega)]; omega
      have r16 : IntKind.i64.wrap ((q : Int) - 16) = ((q - 16 : Nat) : Int) := by rw [wrap_i64 (by omega) (by omega)]; omega
      have r1 : IntKind.i64.wrap ((q : Int) + 1) = ((q + 1 : Nat) : Int) := by rw [wrap_i64 (by omega) (by omega)]; omega
      obtain ⟨y, hy, _⟩ := own_get o18 (i := 0) (by rw [hE]; omega)
      have g : ∀ {w' : World}, Reads w' l15.a (uv (E1 BB q)) → ∀ j, j < q → w'.cell? (y.add j) = some (.int .u32 (((E1 BB q).getD j 0).toNat : Int)) := fun {w'} hr j hj => by
        obtain ⟨z, hz, hc⟩ := hr j _ (uv_get (by rw [hE]; exact hj))
        rw [hy] at hz; cases hz; exact hc
      rw [r3, r8, r14, r16, r1]
      simp only [Int.toNat_natCast, Nat.mul_one]
      refine ⟨fun w' => Reads w' l15.a (uv (E1 BB q)), o18.reads, ⟨by omega, by omega⟩, y, hy, _, fun w hw => g hw _ (by omega), ⟨by omega, by omega⟩, y, hy, _, fun w hw => g hw _ (by omega), ⟨by omega, by omega⟩, y, hy, _, fun w hw => g hw _ (by omega), ⟨by omega, by omega⟩, y, hy, _, fun w hw => g hw _ (by omega), ?_⟩
      simp only [u_of, u_wrap]
      refine (turn2_spec _ 1 (by decide) w18).mono ?_
      rintro e w33 ⟨rfl, d33⟩
      have o33 := o18.drew d33
      refine ⟨_, rfl, o33.reads, ?_⟩
      rw [← nxt1_at (hE q)]
      intro w35 hw35
      have f35 : Fr (fun _ => False) w33 w35 := hw35 ▸ Fr.alloc _ _ _
      have hl : (uv (E1 BB q)).length = q := by rw [uv_len, hE]
      have f33 := f18.trans' (.drew _ d33)
      obtain ⟨w36, l37, hr36, o36, f36⟩ := append_one elU32 o33 (v := .int .u32 (((nxt1 (E1 BB q)).toNat : Nat) : Int)) rfl (by rw [hl]; unfold maxLen; omega) (by rw [hl]; omega) f33.size hw35
      have hold := append_old elU32 o33 (v := .int .u32 (((nxt1 (E1 BB q)).toNat : Nat) : Int)) rfl (by rw [hl]; unfold maxLen; omega) (by rw [hl]; omega) hw35 hr36
      refine ⟨(o33.keep f35 (by simp)).reads, w36, l37, hr36, hold, ⟨q + 1, by omega, by omega, rfl, ?_, f33.trans f36 (fun p hp ⟨y, hy, e⟩ => by have := (o33.blk hy).1; omega)⟩, by omega⟩
      rw [E1_high BB hq16, uv, List.map_append]; exact o36
    have hge := of_decide_eq_false hge
    have : q = 80 := by omega
    subst this
    rw [E1_ext BB (by decide)] at o15
    obtain ⟨h0, h1, h2, h3, h4, hH⟩ : ∃ a b c d e, blocks block1 k start1 P = [a, b, c, d, e] := by
      match blocks block1 k start1 P, hblen with
      | [a, b, c, d, e], _ => exact ⟨_, _, _, _, _, rfl⟩
    rw [hH] at oh
    have hl7 : l7.len = 5 := by rw [oh.len]; rfl
    have oh17 := oh.keep f17 (by simp)
    have rd : ∀ {w' : World}, Own w' w2.heap.size T_uint32 l7 (uv [h0, h1, h2, h3, h4]) → ∃ x, l7.a = some x ∧ w'.cell? (x.add 0) = some (.int .u32 (h0.toNat : Int)) ∧ w'.cell? (x.add 1) = some (.int .u32 (h1.toNat : Int)) ∧ w'.cell? (x.add 2) = some (.int .u32 (h2.toNat : Int)) ∧
        w'.cell? (x.add 3) = some (.int .u32 (h3.toNat : Int)) ∧ w'.cell? (x.add 4) = some (.int .u32 (h4.toNat : Int)) := fun {w'} o => by
      obtain ⟨x, hx, c0⟩ := own_get o (i := 0) (by simp)
      obtain ⟨x1, hx1, c1⟩ := own_get o (i := 1) (by simp)
      obtain ⟨x2, hx2, c2⟩ := own_get o (i := 2) (by simp)
      obtain ⟨x3, hx3, c3⟩ := own_get o (i := 3) (by simp)
      obtain ⟨x4, hx4, c4⟩ := own_get o (i := 4) (by simp)
      rw [hx] at hx1 hx2 hx3 hx4
      cases hx1; cases hx2; cases hx3; cases hx4
      exact ⟨x, hx, c0, c1, c2, c3, c4⟩
    obtain ⟨y, hy, c0, c1, c2, c3, c4⟩ := rd oh17
    rw [hl7]
    refine ⟨⟨by decide, by decide⟩, y, hy, _, c0, ⟨by decide, by decide⟩, y, hy, _, c1, ⟨by decide, by decide⟩, y, hy, _, c2, ⟨by decide, by decide⟩, y, hy, _, c3, ⟨by decide, by decide⟩, y, hy, _, c4, fun w48 d48 => ?_⟩
    have hstep : blocks block1 (k + 1) start1 P = adds [h0, h1, h2, h3, h4] (rds1 0 (ext1 64 (words BB)) [h0, h1, h2, h3, h4]) := by
      rw [blocks_step block1, hBB, hH]; rfl
    have o48 := o15.drew d48
    have oh48 := oh17.drew d48
    have f48 := f17.trans' (.drew _ d48)
    generalize ext1 64 (words BB) = S at o48 hstep o15
    have hS : S.length = 80 := by have := o15.len; rw [uv_len] at this; omega
    refine ⟨fun a b c d e i w' => ∃ (A B C D E : ShaM.W) (k : Nat), k ≤ 80 ∧ i = (k : Int) ∧ a = (A.toNat : Int) ∧ b = (B.toNat : Int) ∧ c = (C.toNat : Int) ∧ d = (D.toNat : Int) ∧ e = (E.toNat : Int) ∧ rds1 0 S [h0, h1, h2, h3, h4] = rds1 k (S.drop k) [A, B, C, D, E] ∧ Drew w48 w',
      fun _ _ _ _ _ i _ => (80 - i).toNat, ⟨h0, h1, h2, h3, h4, 0, by decide, rfl, rfl, rfl, rfl, rfl, rfl, rfl, .refl _⟩, ?_⟩
    rintro a b c d e i w57 ⟨A, B, C, D, E, m, hm, rfl, rfl, rfl, rfl, rfl, rfl, hv, d57⟩
    have e1 : IntKind.i64.wrap ((m : Int) + 1) = ((m + 1 : Nat) : Int) := by rw [wrap_i64 (by omega) (by omega)]; omega
    refine ⟨fun hlt => ?_, fun hge => ?_⟩
    · have hlt := of_decide_eq_true hlt
      rw [rds1_step (by omega)] at hv
      obtain ⟨q1, q2, q3, q4⟩ := f1_eq m B C D
      refine ⟨fun f q w' => w' = w57 ∧ f = (if m < 60 then ((((B &&& C) ||| (B &&& D) ||| (C &&& D)) : ShaM.W).toNat : Int) else ((B ^^^ C ^^^ D).toNat : Int)) ∧ q = (if m < 60 then 2400959708 else 3395469782), ⟨fun h => ?_, fun h => ?_⟩, ?_⟩
      · have h := of_decide_eq_true h
        rw [if_pos (by omega), if_pos (by omega)]
        exact ⟨rfl, by simp only [u_of, u_wrap], rfl⟩
      · have h := of_decide_eq_false h
        rw [if_neg (by omega), if_neg (by omega)]
        exact ⟨rfl, by simp only [u_of, u_wrap], rfl⟩
      rintro f q w61 ⟨rfl, hf, hq⟩
      refine ⟨fun f' q' w' => w' = w61 ∧ f' = (if m < 40 then ((B ^^^ C ^^^ D).toNat : Int) else f) ∧ q' = (if m < 40 then 1859775393 else q), ⟨fun h => ?_, fun h => ?_⟩, ?_⟩
      · have h := of_decide_eq_true h
        rw [if_pos (by omega), if_pos (by omega)]
        exact ⟨rfl, by simp only [u_of, u_wrap], rfl⟩
      · have h := of_decide_eq_false h
        rw [if_neg (by omega), if_neg (by omega)]
        exact ⟨rfl, rfl, rfl⟩
      rintro f2 q' w65 ⟨rfl, hf2, hq'⟩
      refine ⟨fun f' q' w' => w' = w65 ∧ f' = ((f1 m B C D).toNat : Int) ∧ q' = ((k1 m).toNat : Int), ⟨fun h => ?_, fun h => ?_⟩, ?_⟩
      · have h := of_decide_eq_true h
        obtain ⟨g1, g2⟩ := q1 (by omega)
        rw [g1, g2, ones32]
        exact ⟨rfl, by simp only [u_of, u_wrap, BitVec.xor_allOnes], rfl⟩
      · have h := of_decide_eq_false h
        refine ⟨rfl, ?_, ?_⟩
        · rw [hf2, hf]
          by_cases h40 : m < 40
          · rw [if_pos h40, (q2 (by omega) h40).1]
          · rw [if_neg h40]
            by_cases h60 : m < 60
            · rw [if_pos h60, (q3 (by omega) h60).1]
            · rw [if_neg h60, (q4 (by omega)).1]
        · rw [hq', hq]
          by_cases h40 : m < 40
          · rw [if_pos h40, (q2 (by omega) h40).2]; rfl
          · rw [if_neg h40]
            by_cases h60 : m < 60
            · rw [if_pos h60, (q3 (by omega) h60).2]; rfl
            · rw [if_neg h60, (q4 (by omega)).2]; rfl
      rintro f3 q3' w69 ⟨rfl, rfl, rfl⟩
      intro w70 d70
      have d470 := d57.trans d70
      have o70 := o48.drew d470
      obtain ⟨y, hy, hc⟩ := own_get o70 (i := m) (by omega)
      rw [hl15]
      refine ⟨fun w => Drew w48 w, d470, ⟨by omega, by omega⟩, y, hy, _, fun w hw => by rw [Int.toNat_natCast, Nat.mul_one, hw.cell, ← d470.cell]; exact hc, ?_⟩
      refine (turn2_spec A 5 (by decide) w70).mono ?_
      rintro e w76 ⟨rfl, d76⟩
      refine ⟨_, rfl, d470.trans d76, ?_⟩
      refine (turn2_spec B 30 (by decide) w76).mono ?_
      rintro e w79 ⟨rfl, d79⟩
      refine ⟨_, rfl, ?_⟩
      rw [e1, u_add, u_add, u_add, u_add]
      exact ⟨⟨_, _, _, _, _, m + 1, by omega, rfl, rfl, rfl, rfl, rfl, rfl, hv, (d470.trans d76).trans d79⟩, by dsimp only; omega⟩
    · have hge := of_decide_eq_false hge
      have : m = 80 := by omega
      subst this
      have hSn : S.drop 80 = [] := List.drop_eq_nil_of_le (by omega)
      rw [hSn] at hv
      have hv : rds1 0 S [h0, h1, h2, h3, h4] = [A, B, C, D, E] := hv
      intro w81 d81
      have oh81 := (oh48.drew d57).drew d81
      have f81 := (f48.trans' (.drew _ d57)).trans' (.drew _ d81)
      obtain ⟨y, hy, c0, c1, c2, c3, c4⟩ := rd oh81
      refine ⟨⟨by decide, by decide⟩, y, hy, _, c0, ⟨by decide, by decide⟩, y, hy, _, c1, ⟨by decide, by decide⟩, y, hy, _, c2, ⟨by decide, by decide⟩, y, hy, _, c3, ⟨by decide, by decide⟩, y, hy, _, c4, ?_⟩
      rw [u_add, u_add, u_add, u_add, u_add]
      intro w92 hw92
      have f92 : Fr (fun _ => False) w81 w92 := hw92 ▸ Fr.alloc _ _ _
      rw [hv] at hstep
      have hfin : blocks block1 (k + 1) start1 P = [h0 + A, h1 + B, h2 + C, h3 + D, h4 + E] := hstep
      have fall := (f9.trans' f81).trans' f92
      refine ⟨⟨k + 1, by omega, by omega, ?_, fall⟩, by dsimp only; omega⟩
      rw [hfin]
      exact ⟨rfl, .inr ⟨w81.heap.size, _, rfl, (f9.trans' f81).size, hw92 ▸ alloc_new _ _, Nat.le_refl _, by simp [maxLen], rfl, rfl⟩⟩
  · have hge := of_decide_eq_false hge
    have : k = Q := by omega
    subst this
    refine (rout_spec (c := l7.cap) oh.reads (by rw [oh.len, uv_len]) (by rw [oh.len, uv_len, hblen]; decide)).mono ?_
    rintro e w94 ⟨rfl, f94⟩
    exact ⟨_, rfl, rfl, (f2.trans' f9).trans' f94⟩
end Go.Proofs.Ytcboiljbkkleiaa
