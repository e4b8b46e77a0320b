/- What the reference's Sum256 does. Conditions: the text is short enough for a slice to hold (2 to the 40th); the constants are those of its Table. -/
import Derived.Test.YtcboiljbkkleiaaShaR1
import Derived.Test.YtcboiljbkkleiaaShaD
set_option linter.unusedVariables false
namespace Go.Proofs.Ytcboiljbkkleiaa
open Go Vc BitsM ShaM Go.Proofs

set_option maxRecDepth 100000 in
theorem start2_roots : ((primesTo 310).take 8).map (fun p : Nat => BitVec.ofInt 32 (root2 (p : Int))) = start2 := by decide +kernel

theorem rsum256_spec (x : ByteArray) (hx : x.size + 200 ≤ 1099511627776) {a : Option Addr} (c : Nat) (w : World) (hK : Reads w a (uv K256)) :
    Calls Try.prog F_cartularyref02_Sum256 #[.string x, .slice a 64 c] w fun e w' => e = .returned (.string ⟨(digest (block2 K256) start2 x.data.toList).toArray⟩) ∧ Fr (fun _ => False) w w' := by
  refine vc_cartularyref02_Sum256_ok (R := fun v w' => v = .string ⟨(digest (block2 K256) start2 x.data.toList).toArray⟩ ∧ Fr (fun _ => False) w w') ?_ (fun v w' h => ⟨by rw [h.1], h.2⟩)
  have hKl := K256_len
  have hdg : digest (block2 K256) start2 x.data.toList = out (blocks (block2 K256) ((pad x.data.toList).length / 64) start2 (pad x.data.toList)) := rfl
  rw [hdg]
  generalize K256 = K at hK hKl ⊢
  refine (rpad_spec x (by omega) w).mono ?_
  rintro e w2 ⟨l3, rfl, o3, f2⟩
  refine ⟨l3, rfl, ?_⟩
  intro w4 hw4
  have f4 : Fr (fun _ => False) w2 w4 := hw4 ▸ Fr.alloc _ _ _
  have oh4 : Own w4 w2.heap.size T_uint32 ⟨some ⟨w2.heap.size, 0, none⟩, 0, 0⟩ [] := ⟨rfl, .inr ⟨w2.heap.size, #[], rfl, Nat.le_refl _, hw4 ▸ alloc_new _ _, Nat.le_refl _, Nat.zero_le _, rfl, rfl⟩⟩
  have hlt4 : w2.heap.size < w4.heap.size := by rw [hw4]; simp
  have hpl := pad_length x.data.toList
  have hplen : (pad x.data.toList).length ≤ x.size + 200 := by
    unfold pad; simp; omega
  generalize pad x.data.toList = P at o3 hpl hplen ⊢
  obtain ⟨Q, hQ⟩ : ∃ Q, P.length = 64 * Q := ⟨P.length / 64, by omega⟩
  have hll3 : l3.len = 64 * Q := by rw [o3.len, List.length_map, hQ]
  have hcap3 := o3.cap
  rw [show P.length / 64 = Q by omega]
  have hps := primes_spec 8 (by decide) w4
  have hroots := start2_roots
  have hpl8 : ((primesTo 310).take 8).length = 8 := by rw [List.length_take, primes_64]; rfl
  generalize (primesTo 310).take 8 = L at hps hroots hpl8
  refine hps.mono ?_
  rintro e w6 ⟨l7, rfl, o7, f6⟩
  refine ⟨l7, rfl, ?_⟩
  have hl7 : l7.len = 8 := by rw [o7.len, List.length_map, hpl8]
  have hRget : ∀ (k : Nat) (h : k < L.length), start2.take (k + 1) = start2.take k ++ [BitVec.ofInt 32 (root2 ((L[k]'h : Nat) : Int))] := fun k h => by
    have hk : k < start2.length := by rw [← hroots, List.length_map]; exact h
    have hg : start2[k]'hk = BitVec.ofInt 32 (root2 ((L[k]'h : Nat) : Int)) := by
      have : start2[k]? = some (BitVec.ofInt 32 (root2 ((L[k]'h : Nat) : Int))) := by rw [← hroots, List.getElem?_map, List.getElem?_eq_getElem h]; rfl
      exact (List.getElem?_eq_some_iff.1 this).2
    rw [List.take_succ_eq_append_getElem hk, hg]
  have f26 := f4.trans' f6
  refine ⟨fun l i w' => ∃ k : Nat, k ≤ 8 ∧ i = (k : Int) ∧ Own w' w2.heap.size T_uint32 l (uv (start2.take k)) ∧ (∀ y, l.a = some y → y.block < w4.heap.size ∨ w6.heap.size ≤ y.block) ∧ Own w' w4.heap.size T_uint64 l7 (qv L) ∧ Fr (fun _ => False) w2 w' ∧ w6.heap.size ≤ w'.heap.size, fun _ i _ => (8 - i).toNat,
    ⟨0, by decide, rfl, oh4.keep f6 (by simp), fun y hy => by cases hy; exact .inl hlt4, o7, f26, Nat.le_refl _⟩, ?_⟩
  rintro l10 i w12 ⟨k, hk, rfl, ol, hdis, o7', f12, hs12⟩
  refine ⟨fun hlt => ?_, fun hge => ?_⟩
  · have hlt := of_decide_eq_true hlt
    have hkl : k < L.length := by omega
    have hkg := hRget k hkl
    obtain ⟨y, hy, hc⟩ := o7'.reads k (.int .u64 ((L[k]'hkl : Nat) : Int)) (by rw [qv, List.getElem?_map, List.getElem?_eq_getElem hkl]; rfl)
    have e1 : IntKind.i64.wrap ((k : Int) + 1) = ((k + 1 : Nat) : Int) := by rw [wrap_i64 (by omega) (by omega)]; omega
    rw [e1]
    refine ⟨⟨by omega, by omega⟩, y, hy, _, by rw [Int.toNat_natCast, Nat.mul_one]; exact hc, ?_⟩
    generalize L[k]'hkl = p at hkg
    refine (root_spec under2 2 under2_spec p w12).mono ?_
    rintro e w16 ⟨rfl, rfl⟩
    refine ⟨_, rfl, ?_⟩
    intro w18 hw18
    have hr3 : IntKind.u32.wrap (rootI under2 p 41 0) = ((BitVec.ofInt 32 (root2 (p : Int))).toNat : Int) := by rw [root2, root_bv]
    rw [hr3] at hw18
    have hlen : (uv (start2.take k)).length = k := by rw [uv_len, List.length_take]; show min k 8 = k; omega
    obtain ⟨w19, l20, hr, o20, f20, s20⟩ := append_one' elU32 ol (v := .int .u32 ((BitVec.ofInt 32 (root2 (p : Int))).toNat : Int)) rfl (by rw [hlen]; unfold maxLen; omega) (by rw [hlen]; omega) f12.size hw18
    have hX : ∀ q, Vc.At l10 q → w2.heap.size ≤ q ∧ (q < w4.heap.size ∨ w6.heap.size ≤ q) := fun q ⟨y, hy, e⟩ => by rw [e]; exact ⟨(ol.blk hy).1, hdis y hy⟩
    have o7b : ∀ x, l7.a = some x → w4.heap.size ≤ x.block ∧ x.block < w6.heap.size := fun x hx => o7.blk hx
    refine ⟨w19, l20, hr, ⟨k + 1, by omega, rfl, ?_, ?_, o7'.keep f20 (fun x hx h => by have := hX _ h; have := o7b x hx; omega), f12.trans f20 (fun q hq h => by have := (hX q h).1; omega), by have := f20.size; omega⟩, by dsimp only; omega⟩
    · rw [hkg, uv, List.map_append]; exact o20
    · intro y hy
      rcases s20 y hy with ⟨z, hz, hzb⟩ | hn
      · rw [← hzb]; exact hdis z hz
      · exact .inr (by omega)
  have hge := of_decide_eq_false hge
  have : k = 8 := by omega
  subst this
  rw [show start2.take 8 = start2 from rfl] at ol
  clear hroots hRget o7' hps
  refine ⟨fun l i w' => ∃ k : Nat, k ≤ Q ∧ i = ((64 * k : Nat) : Int) ∧ Own w' w2.heap.size T_uint32 l (uv (blocks (block2 K) k start2 P)) ∧ Fr (fun _ => False) w2 w', fun _ i _ => ((64 * Q : Nat) - i).toNat, ⟨0, Nat.zero_le _, rfl, ol, f12⟩, ?_⟩
  rintro l23 i w25 ⟨k, hk, rfl, oh, f25⟩
  have hblen := blocks_length (f := block2 K) (k := 8) (fun h p hl => by rw [block2_length]; exact hl) k start2 P rfl
  have hl23 : l23.len = 8 := by rw [oh.len, uv_len, hblen]
  refine ⟨fun hlt => ?_, fun hge => ?_⟩
  · have hlt := of_decide_eq_true hlt
    have hkQ : k < Q := by omega
    have e1 : IntKind.i64.wrap (((64 * k : Nat) : Int) + 64) = ((64 * (k + 1) : Nat) : Int) := by rw [wrap_i64 (by omega) (by omega)]; omega
    have hcm : l3.cap ≤ maxLen := by
      rcases o3.2 with ⟨_, _, h⟩ | ⟨_, _, _, _, _, _, _, _, h, _⟩
      · rw [h]; decide
      · exact h
    rw [e1, Int.toNat_natCast, Int.toNat_natCast, show 64 * (k + 1) - 64 * k = 64 by omega]
    refine ⟨⟨by omega, by omega, by omega⟩, ?_⟩
    obtain ⟨BB, hBB⟩ : ∃ BB, (P.drop (64 * k)).take 64 = BB := ⟨_, rfl⟩
    have hBl : BB.length = 64 := by rw [← hBB, List.length_take, List.length_drop]; omega
    have hrB : Reads w25 (subA l3.a l3.cap (64 * k) 1) (byteV BB) := by
      have := (((o3.keep f25 (by simp)).reads).sub (cap := l3.cap) (by rw [List.length_map, hQ]; omega) (64 * k)).take 64
      rw [← hBB, byteV, List.map_take, List.map_drop]; exact this
    refine (rwords_spec (c := l3.cap - 64 * k) hrB hBl (by decide)).mono ?_
    rintro e w27 ⟨l28, rfl, o28, f27⟩
    refine ⟨l28, rfl, ?_⟩
    have hE : ∀ k, (E2 BB k).length = k := E2_length BB
    refine ⟨fun l j w' => ∃ q : Nat, 16 ≤ q ∧ q ≤ 64 ∧ j = (q : Int) ∧ Own w' w25.heap.size T_uint32 l (uv (E2 BB q)) ∧ Fr (fun _ => False) w25 w', fun _ j _ => (64 - j).toNat, ⟨16, by decide, by decide, rfl, by rw [E2_ext BB (by decide)]; exact o28, f27⟩, ?_⟩
    rintro l31 j w33 ⟨q, hq16, hq64, rfl, o31, f33⟩
    have hl31 : l31.len = q := by rw [o31.len, uv_len, hE]
    refine ⟨fun hlt => ?_, fun hge => ?_⟩
    · have hlt := of_decide_eq_true hlt
      have r15 : IntKind.i64.wrap ((q : Int) - 15) = ((q - 15 : Nat) : Int) := by rw [wrap_i64 (by omega) (by omega)]; omega
      have r2 : IntKind.i64.wrap ((q : Int) - 2) = ((q - 2 : Nat) : Int) := by rw [wrap_i64 (by omega) (by omega)]; omega
      have r16 : IntKind.i64.wrap ((q : Int) - 16) = ((q - 16 : Nat) : Int) := by rw [wrap_i64 (by omega) (by omega)]; omega
      have r7 : IntKind.i64.wrap ((q : Int) - 7) = ((q - 7 : Nat) : Int) := by rw [wrap_i64 (by omega) (by omega)]; omega
      have r1 : IntKind.i64.wrap ((q : Int) + 1) = ((q + 1 : Nat) : Int) := by rw [wrap_i64 (by omega) (by omega)]; omega
      obtain ⟨y, hy, _⟩ := own_get o31 (i := 0) (by rw [hE]; omega)
      have g : ∀ {w' : World}, Reads w' l31.a (uv (E2 BB q)) → ∀ j, j < q → w'.cell? (y.add j) = some (.int .u32 (((E2 BB q).getD j 0).toNat : Int)) := fun {w'} hr j hj => by
        obtain ⟨z, hz, hc⟩ := hr j _ (uv_get (by rw [hE]; exact hj))
        rw [hy] at hz; cases hz; exact hc
      rw [r15, r2, r16, r7, r1]
      simp only [Int.toNat_natCast, Nat.mul_one]
      refine ⟨⟨by omega, by omega⟩, y, hy, _, g o31.reads _ (by omega), ⟨by omega, by omega⟩, y, hy, _, g o31.reads _ (by omega), fun w38 d38 w39 d39 => ?_⟩
      have o39 := (o31.drew d38).drew d39
      have f39 := (f33.trans' (.drew _ d38)).trans' (.drew _ d39)
      refine ⟨fun w' => Reads w' l31.a (uv (E2 BB q)), o39.reads, ⟨by omega, by omega⟩, y, hy, _, fun w hw => g hw _ (by omega), by decide, ⟨by omega, by omega⟩, y, hy, _, fun w hw => g hw _ (by omega), by decide, ?_⟩
      refine (turn2_spec _ 25 (by decide) w39).mono ?_
      rintro e w48 ⟨rfl, d48⟩
      refine ⟨_, rfl, (o39.drew d48).reads, ?_⟩
      refine (turn2_spec _ 14 (by decide) w48).mono ?_
      rintro e w51 ⟨rfl, d51⟩
      refine ⟨_, rfl, ((o39.drew d48).drew d51).reads, ?_⟩
      refine (turn2_spec _ 15 (by decide) w51).mono ?_
      rintro e w54 ⟨rfl, d54⟩
      refine ⟨_, rfl, (((o39.drew d48).drew d51).drew d54).reads, ?_⟩
      refine (turn2_spec _ 13 (by decide) w54).mono ?_
      rintro e w57 ⟨rfl, d57⟩
      have o57 := ((((o39.drew d48).drew d51).drew d54).drew d57)
      have f57 := (((f39.trans' (.drew _ d48)).trans' (.drew _ d51)).trans' (.drew _ d54)).trans' (.drew _ d57)
      refine ⟨_, rfl, o57.reads, ?_⟩
      simp only [u_of, u_wrap, shr3, shr10, u_add]
      rw [← nxt2_at (hE q)]
      intro w59 hw59
      have f59 : Fr (fun _ => False) w57 w59 := hw59 ▸ Fr.alloc _ _ _
      have hl : (uv (E2 BB q)).length = q := by rw [uv_len, hE]
      obtain ⟨w60, l61, hr60, o60, f60⟩ := append_one elU32 o57 (v := .int .u32 (((nxt2 (E2 BB q)).toNat : Nat) : Int)) rfl (by rw [hl]; unfold maxLen; omega) (by rw [hl]; omega) f57.size hw59
      have hold := append_old elU32 o57 (v := .int .u32 (((nxt2 (E2 BB q)).toNat : Nat) : Int)) rfl (by rw [hl]; unfold maxLen; omega) (by rw [hl]; omega) hw59 hr60
      refine ⟨(o57.keep f59 (by simp)).reads, w60, l61, hr60, hold, ⟨q + 1, by omega, by omega, rfl, ?_, f57.trans f60 (fun p hp ⟨y, hy, e⟩ => by have := (o57.blk hy).1; omega)⟩, by omega⟩
      rw [E2_high BB hq16, uv, List.map_append]; exact o60
    have hge := of_decide_eq_false hge
    have : q = 64 := by omega
    subst this
    rw [E2_ext BB (by decide)] at o31
    obtain ⟨H, hH⟩ : ∃ H, blocks (block2 K) k start2 P = H := ⟨_, rfl⟩
    rw [hH] at oh hblen
    have hstep : blocks (block2 K) (k + 1) start2 P = adds H (rds2 K (ext2 48 (words BB)) H) := by
      rw [blocks_step (block2 K), hBB, hH]; rfl
    have oh33 := oh.keep f33 (by simp)
    generalize ext2 48 (words BB) = S at o31 hstep
    have hS : S.length = 64 := by have := o31.len; rw [uv_len] at this; omega
    intro w62 hw62
    have f62 : Fr (fun _ => False) w33 w62 := hw62 ▸ Fr.alloc _ _ _
    have ov62 : Own w62 w33.heap.size T_uint32 ⟨some ⟨w33.heap.size, 0, none⟩, 0, 0⟩ [] := ⟨rfl, .inr ⟨w33.heap.size, #[], rfl, Nat.le_refl _, hw62 ▸ alloc_new _ _, Nat.le_refl _, Nat.zero_le _, rfl, rfl⟩⟩
    obtain ⟨w63, l64, hr63, ov63, f63'⟩ := append_all elU32 ov62 l23.cap ((oh33.keep f62 (by simp)).reads) (one_uv _) (by rw [List.length_nil, uv_len, hblen]; decide) (by rw [List.length_nil, uv_len, hblen]; decide) f62.size (m := l23.len) (by rw [uv_len, hblen, hl23])
    rw [List.nil_append] at ov63
    have f63 : Fr (fun _ => False) w33 w63 := f62.trans f63' (fun p hp ⟨y, hy, e⟩ => by cases hy; simp only at e; omega)
    refine ⟨w63, l64, hr63, ?_⟩
    have f2_33 := f25.trans' f33
    have fK : ∀ {w' : World}, Fr (fun _ => False) w33 w' → Reads w' a (uv K) := fun {w'} hf => hK.keep ((f2.trans' f2_33).trans' hf) (by simp)
    refine ⟨fun l i w' => ∃ (m : Nat) (v : List ShaM.W), m ≤ 64 ∧ i = (m : Int) ∧ v.length = 8 ∧ rds2 K S H = rds2 (K.drop m) (S.drop m) v ∧ Own w' w33.heap.size T_uint32 l (uv v) ∧ Fr (fun _ => False) w33 w', fun _ i _ => (64 - i).toNat,
      ⟨0, H, by decide, rfl, hblen, rfl, ov63, f63⟩, ?_⟩
    rintro l67 i w69 ⟨m, v, hm, rfl, hvl, hv, oV, f69⟩
    have hl67 : l67.len = 8 := by rw [oV.len, uv_len, hvl]
    refine ⟨fun hlt => ?_, fun hge => ?_⟩
    · have hlt := of_decide_eq_true hlt
      have e1 : IntKind.i64.wrap ((m : Int) + 1) = ((m + 1 : Nat) : Int) := by rw [wrap_i64 (by omega) (by omega)]; omega
      obtain ⟨A, B, C, D, E, F, G, Z, rfl⟩ : ∃ a b c d e f g q, v = [a, b, c, d, e, f, g, q] := by
        match v, hvl with
        | [a, b, c, d, e, f, g, q], _ => exact ⟨_, _, _, _, _, _, _, _, rfl⟩
      obtain ⟨y, hy, _⟩ := own_get oV (i := 0) (by simp)
      have gv : ∀ {w' : World}, Own w' w33.heap.size T_uint32 l67 (uv [A, B, C, D, E, F, G, Z]) → ∀ j, j < 8 → w'.cell? (Addr.add y (j * 1)) = some (.int .u32 ((([A, B, C, D, E, F, G, Z] : List ShaM.W).getD j 0).toNat : Int)) := fun {w'} o j hj => by
        obtain ⟨z, hz, hc⟩ := own_get o (i := j) hj
        rw [hy] at hz; cases hz; rw [Nat.mul_one]; exact hc
      have hst : rds2 (K.drop m) (S.drop m) [A, B, C, D, E, F, G, Z] = rds2 (K.drop (m + 1)) (S.drop (m + 1)) (rd2 (K.getD m 0) (S.getD m 0) [A, B, C, D, E, F, G, Z]) := by
        have hkK : m < K.length := by omega
        have hkS : m < S.length := by omega
        rw [List.drop_eq_getElem_cons hkK, List.drop_eq_getElem_cons hkS]
        simp [rds2, hkK, hkS]
      rw [e1, hl67, hl31]
      intro w70 d70
      have f70 := f69.trans' (.drew _ d70)
      obtain ⟨yK, hyK, hcK⟩ := (fK f70) m _ (uv_get (by omega))
      obtain ⟨yS, hyS, hcS⟩ := own_get (o31.keep f70 (by simp)) (i := m) (by omega)
      have oV70 := oV.drew d70
      have pk : ∀ {w' : World}, Drew w70 w' → ∀ j, j < 8 → w'.cell? (Addr.add y (j * 1)) = some (.int .u32 ((([A, B, C, D, E, F, G, Z] : List ShaM.W).getD j 0).toNat : Int)) := fun {w'} d j hj => gv (oV70.drew d) j hj
      refine ⟨fun w => Drew w70 w, .refl _, ⟨by decide, by decide⟩, y, hy, _, fun w hw => pk hw 7 (by decide), ⟨by decide, by decide⟩, y, hy, _, fun w hw => pk hw 4 (by decide), ⟨by decide, by decide⟩, y, hy, _, fun w hw => pk hw 4 (by decide), ⟨by decide, by decide⟩, y, hy, _, fun w hw => pk hw 4 (by decide),
        ⟨by decide, by decide⟩, y, hy, _, fun w hw => pk hw 4 (by decide), ⟨by decide, by decide⟩, y, hy, _, fun w hw => pk hw 5 (by decide), ⟨by decide, by decide⟩, y, hy, _, fun w hw => pk hw 4 (by decide), ⟨by decide, by decide⟩, y, hy, _, fun w hw => pk hw 6 (by decide),
        ⟨by omega, by omega⟩, yK, hyK, _, fun w hw => by rw [Int.toNat_natCast, Nat.mul_one, hw.cell]; exact hcK, ⟨by omega, by omega⟩, yS, hyS, _, fun w hw => by rw [Int.toNat_natCast, Nat.mul_one, hw.cell]; exact hcS, ?_⟩
      refine (turn2_spec _ 26 (by decide) w70).mono ?_
      rintro e w103 ⟨rfl, d103⟩
      refine ⟨_, rfl, d103, ?_⟩
      refine (turn2_spec _ 21 (by decide) w103).mono ?_
      rintro e w106 ⟨rfl, d106⟩
      refine ⟨_, rfl, d103.trans d106, ?_⟩
      refine (turn2_spec _ 7 (by decide) w106).mono ?_
      rintro e w109 ⟨rfl, d109⟩
      refine ⟨_, rfl, (d103.trans d106).trans d109, ?_⟩
      intro w111 d111
      have d11 := ((d103.trans d106).trans d109).trans d111
      refine ⟨fun w => Drew w70 w, d11, ⟨by decide, by decide⟩, y, hy, _, fun w hw => pk hw 0 (by decide), ⟨by decide, by decide⟩, y, hy, _, fun w hw => pk hw 0 (by decide), ⟨by decide, by decide⟩, y, hy, _, fun w hw => pk hw 0 (by decide), ⟨by decide, by decide⟩, y, hy, _, fun w hw => pk hw 0 (by decide),
        ⟨by decide, by decide⟩, y, hy, _, fun w hw => pk hw 1 (by decide), ⟨by decide, by decide⟩, y, hy, _, fun w hw => pk hw 0 (by decide), ⟨by decide, by decide⟩, y, hy, _, fun w hw => pk hw 2 (by decide), ⟨by decide, by decide⟩, y, hy, _, fun w hw => pk hw 1 (by decide), ⟨by decide, by decide⟩, y, hy, _, fun w hw => pk hw 2 (by decide), ?_⟩
      refine (turn2_spec _ 30 (by decide) w111).mono ?_
      rintro e w141 ⟨rfl, d141⟩
      refine ⟨_, rfl, d11.trans d141, ?_⟩
      refine (turn2_spec _ 19 (by decide) w141).mono ?_
      rintro e w144 ⟨rfl, d144⟩
      refine ⟨_, rfl, (d11.trans d141).trans d144, ?_⟩
      refine (turn2_spec _ 10 (by decide) w144).mono ?_
      rintro e w147 ⟨rfl, d147⟩
      refine ⟨_, rfl, ((d11.trans d141).trans d144).trans d147, ?_⟩
      intro w149 d149
      have d14 := (((d11.trans d141).trans d144).trans d147).trans d149
      refine ⟨⟨by decide, by decide⟩, y, hy, _, pk d14 0 (by decide), ⟨by decide, by decide⟩, y, hy, _, pk d14 1 (by decide), ⟨by decide, by decide⟩, y, hy, _, pk d14 2 (by decide), ⟨by decide, by decide⟩, y, hy, _, pk d14 3 (by decide), ⟨by decide, by decide⟩, y, hy, _, pk d14 4 (by decide),
        ⟨by decide, by decide⟩, y, hy, _, pk d14 5 (by decide), ⟨by decide, by decide⟩, y, hy, _, pk d14 6 (by decide), ?_⟩
      rw [ones32]
      simp only [u_of, u_wrap, u_add, BitVec.xor_allOnes]
      intro w164 hw164
      have f164 : Fr (fun _ => False) w149 w164 := hw164 ▸ Fr.alloc _ _ _
      have fall := (f70.trans' (.drew _ d14)).trans' f164
      refine ⟨⟨m + 1, rd2 (K.getD m 0) (S.getD m 0) [A, B, C, D, E, F, G, Z], by omega, rfl, rfl, by rw [hv, hst], ?_, fall⟩, by omega⟩
      exact ⟨rfl, .inr ⟨w149.heap.size, _, rfl, (f70.trans' (.drew _ d14)).size, hw164 ▸ alloc_new _ _, Nat.le_refl _, by simp [maxLen], rfl, rfl⟩⟩
    have hge := of_decide_eq_false hge
    have : m = 64 := by omega
    subst this
    have hKn : K.drop 64 = [] := List.drop_eq_nil_of_le (by omega)
    have hSn : S.drop 64 = [] := List.drop_eq_nil_of_le (by omega)
    rw [hKn, hSn] at hv
    have hv : rds2 K S H = v := hv
    rw [hv] at hstep
    intro w165 hw165
    have f165 : Fr (fun _ => False) w69 w165 := hw165 ▸ Fr.alloc _ _ _
    have on165 : Own w165 w69.heap.size T_uint32 ⟨some ⟨w69.heap.size, 0, none⟩, 0, 0⟩ [] := ⟨rfl, .inr ⟨w69.heap.size, #[], rfl, Nat.le_refl _, hw165 ▸ alloc_new _ _, Nat.le_refl _, Nat.zero_le _, rfl, rfl⟩⟩
    have oh69 := oh33.keep f69 (by simp)
    have hal : (adds H v).length = 8 := by rw [adds_zip, List.length_zipWith]; omega
    refine ⟨fun l i w' => ∃ m : Nat, m ≤ 8 ∧ i = (m : Int) ∧ Own w' w69.heap.size T_uint32 l (uv ((adds H v).take m)) ∧ Fr (fun _ => False) w69 w', fun _ i _ => (8 - i).toNat, ⟨0, by decide, rfl, on165, f165⟩, ?_⟩
    rintro l168 i w170 ⟨m, hm, rfl, on, f170⟩
    rw [hl23, hl67]
    refine ⟨fun hlt => ?_, fun hge => ?_⟩
    · have hlt := of_decide_eq_true hlt
      have hm8 : m < 8 := by omega
      have e1 : IntKind.i64.wrap ((m : Int) + 1) = ((m + 1 : Nat) : Int) := by rw [wrap_i64 (by omega) (by omega)]; omega
      rw [e1]
      intro w171 d171
      have f171 := f170.trans' (.drew _ d171)
      have hm1 : m < H.length := by omega
      have hm2 : m < v.length := by omega
      have gH : ∀ {w' : World}, Fr (fun _ => False) w69 w' → ∃ y, l23.a = some y ∧ w'.cell? (y.add m) = some (.int .u32 ((H.getD m 0).toNat : Int)) := fun {w'} hf => own_get (oh69.keep hf (by simp)) hm1
      have gV : ∀ {w' : World}, Fr (fun _ => False) w69 w' → ∃ y, l67.a = some y ∧ w'.cell? (y.add m) = some (.int .u32 ((v.getD m 0).toNat : Int)) := fun {w'} hf => own_get (oV.keep hf (by simp)) hm2
      obtain ⟨y1, hy1, _⟩ := gH f171
      obtain ⟨y2, hy2, _⟩ := gV f171
      refine ⟨fun w => Fr (fun _ => False) w69 w, f171, ⟨by omega, by omega⟩, y1, hy1, (H.getD m 0).toNat, fun w hw => ?_, ⟨by omega, by omega⟩, y2, hy2, (v.getD m 0).toNat, fun w hw => ?_, ?_⟩
      · obtain ⟨z, hz, hc⟩ := gH hw
        rw [hy1] at hz; cases hz
        rw [Int.toNat_natCast, Nat.mul_one]; exact hc
      · obtain ⟨z, hz, hc⟩ := gV hw
        rw [hy2] at hz; cases hz
        rw [Int.toNat_natCast, Nat.mul_one]; exact hc
      rw [u_add]
      have htk : (adds H v).take (m + 1) = (adds H v).take m ++ [H.getD m 0 + v.getD m 0] := by
        have hx : (adds H v)[m]'(by omega) = H.getD m 0 + v.getD m 0 := by
          simp only [adds_zip, List.getElem_zipWith, List.getD_eq_getElem?_getD, List.getElem?_eq_getElem hm1, List.getElem?_eq_getElem hm2, Option.getD_some]
        rw [List.take_succ_eq_append_getElem (by omega), hx]
      intro w179 hw179
      have f179 : Fr (fun _ => False) w171 w179 := hw179 ▸ Fr.alloc _ _ _
      have hl : (uv ((adds H v).take m)).length = m := by rw [uv_len, List.length_take, hal]; omega
      obtain ⟨w180, l181, hr180, o180, f180⟩ := append_one elU32 (on.drew d171) (v := .int .u32 (((H.getD m 0 + v.getD m 0).toNat : Nat) : Int)) rfl (by rw [hl]; unfold maxLen; omega) (by rw [hl]; omega) f171.size hw179
      have fall : Fr (fun _ => False) w69 w180 := f171.trans f180 (fun p hp ⟨y, hy, e⟩ => by have := (on.blk hy).1; omega)
      refine ⟨f171.trans' f179, w180, l181, hr180, fall, ⟨m + 1, by omega, rfl, ?_, fall⟩, by dsimp only; omega⟩
      rw [htk, uv, List.map_append]; exact o180
    · have hge := of_decide_eq_false hge
      have : m = 8 := by omega
      subst this
      rw [List.take_of_length_le (by omega), ← hstep] at on
      have f2_69 := f2_33.trans' f69
      refine ⟨⟨k + 1, by omega, rfl, on.mono f2_69.size, f2_69.trans' f170⟩, by dsimp only; omega⟩
  · have hge := of_decide_eq_false hge
    have : k = Q := by omega
    subst this
    refine (rout_spec (c := l23.cap) oh.reads (by rw [oh.len, uv_len]) (by rw [oh.len, uv_len, hblen]; decide)).mono ?_
    rintro e w183 ⟨rfl, f183⟩
    exact ⟨_, rfl, rfl, (f2.trans' f25).trans' f183⟩
end Go.Proofs.Ytcboiljbkkleiaa
