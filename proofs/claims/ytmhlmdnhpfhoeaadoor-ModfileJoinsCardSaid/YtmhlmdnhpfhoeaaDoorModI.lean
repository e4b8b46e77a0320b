/- Two files one behind the other. Conditions: as named. -/
import Derived.Test.YtmhlmdnhpfhoeaaDoorModH
set_option linter.unusedVariables false
namespace Go.Proofs.YtmhlmdnhpfhoeaaDoor
open Go Vc Go.Proofs

theorem nls_take {s : ByteArray} {k : Nat} (h : k < s.size) : nls (s.data.toList.take (k + 1)) = nls (s.data.toList.take k) + (if byt s k = 10 then 1 else 0) := by
  unfold nls
  rw [bs_take h, List.filter_append, List.length_append]
  congr 1
  by_cases h10 : byt s k = 10
  · rw [h10]; rfl
  · rw [if_neg h10, List.filter_cons, if_neg]
    · rfl
    · intro e
      have e := eq_of_beq e
      have := congrArg UInt8.toNat e
      rw [toNat_of _ (byt_lt s k)] at this
      exact h10 this
theorem nls_le (l : List UInt8) : nls l ≤ l.length := List.length_filter_le _ _
theorem PaV.keep {w w1 : World} {base : Nat} {res : PRes} {v : Value} (h : PaV w base res v) (hf : Fr (fun _ => False) w w1) : PaV w1 base res v := by
  cases res with
  | bad n => exact h
  | good es =>
    obtain ⟨sl, h1, h2, h3⟩ := h
    exact ⟨sl, h1, (h2.keep hf (by simp)).mono hf.size, h3⟩
theorem joins_walk (a0 a1 : ByteArray) (W : World) : Calls Tryd.prog F_cartularylaw22_ModfileJoins #[.string a0, .string a1] W fun e w' => e = .returned (.bool true) ∧ RowKit.Below W.heap.size W w' := by
  refine vc_cartularylaw22_ModfileJoins_ok (R := fun v w' => v = .bool true ∧ Fr (fun _ => False) W w') ?_ (fun v w' h => ⟨by rw [h.1], (h.2.mono fun _ _ h => h.elim : Fr (fun k => W.heap.size ≤ k) W w').below (Nat.le_refl _)⟩)
  refine (fewS_spec a0 2000 W).mono ?_
  rintro e w2 ⟨rfl, rfl⟩
  have hA := fewS_len a0 2000
  refine ⟨_, rfl, ?_⟩
  generalize (if a0.size > 2000 then a0.extract 0 2000 else a0) = A0 at hA
  have h10 : ByteArray.size ⟨⟨[10]⟩⟩ = 1 := rfl
  refine ⟨by omega, (fewS_spec a1 2000 w2).mono ?_⟩
  rintro e w5 ⟨rfl, rfl⟩
  have hB := fewS_len a1 2000
  refine ⟨_, rfl, ?_⟩
  generalize (if a1.size > 2000 then a1.extract 0 2000 else a1) = B at hB
  have hAl : (A0 ++ ⟨#[10]⟩ : ByteArray).data.toList = A0.data.toList ++ [10] := bs_app _ _
  have hAs : (A0 ++ ⟨#[10]⟩ : ByteArray).size ≤ 2001 := by rw [ByteArray.size_append]; have : (⟨#[10]⟩ : ByteArray).size = 1 := rfl; omega
  have hend : EndsNL (A0 ++ ⟨#[10]⟩ : ByteArray).data.toList := ⟨_, hAl⟩
  generalize (A0 ++ ⟨#[10]⟩ : ByteArray) = A at hAs hend
  refine (parse_spec (by omega) w5).mono ?_
  rintro e w8 ⟨va, rfl, hf8, ra, hPa, hva⟩
  have aw : ∀ {wx : World}, Fr (fun _ => False) w5 wx → Calls Tryd.prog F_cartularylaw22_awake #[] wx fun e w' => e = .returned (.bool true) ∧ Fr (fun _ => False) w5 w' := fun h => (awake22_spec _).mono fun e w' h' => ⟨h'.1, h.trans' h'.2⟩
  have hvaV : ∃ la : Sl, ∃ na ea : Int, va = .tuple #[.slice la.a la.len la.cap, .int .i64 na, .int .i64 ea] ∧ ((ra = .bad na.toNat ∧ ea = 3 ∧ la.len = 0) ∨ ∃ es, ra = .good es ∧ ea = 0 ∧ LnsAt w8 w5.heap.size w8.heap.size la es ∧ es.length ≤ 70000) := by
    cases ra with
    | bad n => exact ⟨⟨none, 0, 0⟩, _, _, hva.1, .inl ⟨by simp, rfl, rfl⟩⟩
    | good es =>
      obtain ⟨sl, h1, h2, h3, _⟩ := hva
      exact ⟨sl, _, _, h1, .inr ⟨es, rfl, rfl, h2, h3⟩⟩
  obtain ⟨la, na, ea, rfl, hra⟩ := hvaV
  refine ⟨la, na, ea, rfl, (parse_spec (by omega) w8).mono ?_⟩
  rintro e w13 ⟨vb, rfl, hf13, rb, hPb, hvb⟩
  have hvbV : ∃ lb : Sl, ∃ nb eb : Int, vb = .tuple #[.slice lb.a lb.len lb.cap, .int .i64 nb, .int .i64 eb] ∧ ((rb = .bad nb.toNat ∧ eb = 3 ∧ 0 ≤ nb ∧ nb ≤ 70000) ∨ ∃ es, rb = .good es ∧ eb = 0 ∧ LnsAt w13 w8.heap.size w13.heap.size lb es ∧ es.length ≤ 70000 ∧ ∀ e ∈ es, e.at_ ≤ 70000) := by
    cases rb with
    | bad n => exact ⟨⟨none, 0, 0⟩, _, _, hvb.1, .inl ⟨by simp, rfl, by omega, by have := hvb.2; omega⟩⟩
    | good es =>
      obtain ⟨sl, h1, h2, h3, h4⟩ := hvb
      exact ⟨sl, _, _, h1, .inr ⟨es, rfl, rfl, h2, h3, h4⟩⟩
  obtain ⟨lb, nb, eb, rfl, hrb⟩ := hvbV
  have hAB : (A ++ B : ByteArray).size ≤ 4001 := by rw [ByteArray.size_append]; omega
  refine ⟨lb, nb, eb, rfl, by omega, (parse_spec (by omega) w13).mono ?_⟩
  rintro e w18 ⟨vz, rfl, hf18, rz, hPz, hvz⟩
  rw [bs_app] at hPz
  have hvzV : ∃ lz : Sl, ∃ nz ez : Int, vz = .tuple #[.slice lz.a lz.len lz.cap, .int .i64 nz, .int .i64 ez] ∧ ((rz = .bad nz.toNat ∧ ez = 3 ∧ 0 ≤ nz ∧ lz.len = 0) ∨ ∃ es, rz = .good es ∧ ez = 0 ∧ LnsAt w18 w13.heap.size w18.heap.size lz es ∧ es.length ≤ 70000) := by
    cases rz with
    | bad n => exact ⟨⟨none, 0, 0⟩, _, _, hvz.1, .inl ⟨by simp, rfl, by omega, rfl⟩⟩
    | good es =>
      obtain ⟨sl, h1, h2, h3, _⟩ := hvz
      exact ⟨sl, _, _, h1, .inr ⟨es, rfl, rfl, h2, h3⟩⟩
  obtain ⟨lz, nz, ez, rfl, hrz⟩ := hvzV
  have hF18 : Fr (fun _ => False) w5 w18 := (hf8.trans' hf13).trans' hf18
  refine ⟨lz, nz, ez, rfl, ?_⟩
  rcases hra with ⟨rfl, rfl, hla⟩ | ⟨xs, rfl, rfl, hLa, hxl⟩
  · refine ⟨fun _ => (aw hF18).mono ?_, fun h => by cases h⟩
    rintro e w' ⟨rfl, hf⟩
    exact ⟨true, rfl, fun _ => ⟨by rw [hla]; rfl, hf⟩, fun h => by cases h⟩
  refine ⟨fun h => (by cases h), fun _ => ?_⟩
  obtain ⟨verb', hjoin⟩ := hPa.app (.inl hend) rfl B.data.toList
  have hmv := hPb.moved xs (nls A.data.toList) verb' [] (fun h => by cases h) rfl rfl
  have hPz' := hjoin _ (by simpa using hmv)
  have hrzE : rz = rb.shift xs (nls A.data.toList) := hPz.det hPz'
  have hd := nls_le A.data.toList
  rw [bs_len] at hd
  refine ⟨fun z1 z2 w' => w' = w18 ∧ ∃ k : Nat, z2 = k ∧ k ≤ A.size ∧ z1 = nls (A.data.toList.take k), fun _ z _ => A.size - z.toNat, ⟨rfl, 0, rfl, Nat.zero_le _, by rw [List.take_zero]; rfl⟩, ?_⟩
  rintro z1 z2 w29 ⟨hw, k, rfl, hk, rfl⟩
  replace hw := hw.symm
  subst hw
  have e1 : IntKind.i64.wrap ((k : Int) + 1) = ((k + 1 : Nat) : Int) := by rw [wrap_i64 (by omega) (by omega)]; omega
  have hnk := nls_le (A.data.toList.take k)
  rw [List.length_take, bs_len] at hnk
  have e2 : IntKind.i64.wrap ((nls (A.data.toList.take k) : Int) + 1) = ((nls (A.data.toList.take k) + 1 : Nat) : Int) := by rw [wrap_i64 (by omega) (by omega)]; omega
  rw [e1, e2, byteAt_nat]
  refine ⟨fun hlt => ?_, fun hge => ?_⟩
  · have hlt := of_decide_eq_true hlt
    have hkl : k < A.size := by omega
    have hnt := nls_take hkl
    refine ⟨⟨by omega, by omega⟩, fun h => ⟨⟨rfl, k + 1, rfl, hkl, ?_⟩, by dsimp only; omega⟩, fun h => ⟨⟨rfl, k + 1, rfl, hkl, ?_⟩, by dsimp only; omega⟩⟩
    · rw [hnt, if_pos (by have := eq_of_beq h; omega)]
    · rw [hnt, if_neg (fun e => by rw [e] at h; simp at h), Nat.add_zero]
  have hge := of_decide_eq_false hge
  have hke : k = A.size := by omega
  rw [hke, bs_all]
  clear e2 e1 hnk
  generalize nls A.data.toList = d at hrzE hd
  rcases hrb with ⟨rfl, rfl, hnb, hnb7⟩ | ⟨ys, rfl, rfl, hLb, hyl, hyat⟩
  · refine ⟨fun _ => (aw hF18).mono ?_, fun h => by cases h⟩
    rintro e w' ⟨rfl, hf⟩
    rcases hrz with ⟨rfl, rfl, hnz, hlz⟩ | ⟨es, rfl, _⟩
    · have hE : nz.toNat = nb.toNat + d := by
        have : (PRes.bad nz.toNat) = .bad (nb.toNat + d) := hrzE
        injection this with this
      have hw : nz = IntKind.i64.wrap (nb + (d : Int)) := by rw [wrap_i64 (by omega) (by omega)]; omega
      exact ⟨true, rfl, fun _ => ⟨fun _ => ⟨fun _ => ⟨by rw [hlz]; rfl, hf⟩, fun h => by rw [hw] at h; simp at h⟩, fun h => by cases h⟩, fun h => by cases h⟩
    · cases hrzE
  refine ⟨fun h => (by cases h), fun _ => ?_⟩
  rcases hrz with ⟨rfl, rfl, hnz, hlz⟩ | ⟨zs, rfl, rfl, hLz, hzl⟩
  · cases hrzE
  refine ⟨fun h => (by cases h), fun _ => ?_⟩
  have hzs : zs = xs ++ ys.map (LineE.shift d) := by
    have : PRes.good zs = .good (xs ++ ys.map (LineE.shift d)) := hrzE
    cases this; rfl
  have hlx := hLa.len
  have hly := hLb.len
  have hlz := hLz.len
  have hlen : zs.length = xs.length + ys.length := by rw [hzs, List.length_append, List.length_map]
  refine ⟨fun hn => ?_, fun _ => ?_⟩
  · exfalso
    rw [wrap_i64 (by omega) (by omega)] at hn
    have : (lz.len : Int) = (la.len : Int) + (lb.len : Int) := by omega
    rw [this] at hn; simp at hn
  have hLa' : LnsAt w18 w5.heap.size w18.heap.size la xs := ((hLa.keep (hf13.trans' hf18) (by simp)).mono (hf13.trans' hf18).size)
  have hLb' : LnsAt w18 w8.heap.size w18.heap.size lb ys := ((hLb.keep hf18 (by simp)).mono hf18.size)
  refine ⟨fun z w' => ∃ k : Nat, z = k ∧ k ≤ zs.length ∧ Fr (fun _ => False) w18 w', fun z _ => zs.length - z.toNat, ⟨0, rfl, Nat.zero_le _, .refl _ _⟩, ?_⟩
  rintro z w36 ⟨k, rfl, hk, hf36⟩
  refine ⟨fun hlt => ?_, fun hge => ?_⟩
  rotate_left
  · refine (aw (hF18.trans' hf36)).mono ?_
    rintro e w' ⟨rfl, hf⟩
    exact ⟨true, rfl, rfl, hf⟩
  have hlt := of_decide_eq_true hlt
  have hkl : k < zs.length := by omega
  have hze : zs[k]? = some zs[k] := List.getElem?_eq_getElem hkl
  generalize zs[k] = x at hze
  obtain ⟨ad, ws, had, hld, _⟩ := ln_at (hLz.keep hf36 (by simp)) hze
  have e1 : IntKind.i64.wrap ((k : Int) + 1) = ((k + 1 : Nat) : Int) := by rw [wrap_i64 (by omega) (by omega)]; omega
  rw [e1]
  refine ⟨⟨by omega, by omega⟩, ad, had, _, ws, _, by rw [Int.toNat_natCast]; exact hld, fun w41 h41 => ?_⟩
  have hf41 : Fr (fun _ => False) w36 w41 := by rw [h41]; exact .alloc _ _ _
  have hl41 : LnAt w41 w36.heap.size ⟨#[]⟩ ⟨none, 0, 0⟩ 0 := by rw [h41]; exact alloc_new _ _
  obtain ⟨w42, k1, k2, k3⟩ := hl41.store x.verb ws x.at_
  have hf42 : Fr (fun _ => False) w18 w42 := hf36.trans' (hf41.trans k3 fun q hq e => by omega)
  have c0 : w42.cell? ⟨w36.heap.size, 0, none⟩ = some (.string x.verb) := by rw [cell_blk k2]; rfl
  have c2 : w42.cell? ⟨w36.heap.size, 2, none⟩ = some (.int .i64 (x.at_ : Int)) := by rw [cell_blk k2]; rfl
  have hgo : ∀ {w' : World}, Drew w42 w' → (∃ k' : Nat, ((k + 1 : Nat) : Int) = k' ∧ k' ≤ zs.length ∧ Fr (fun _ => False) w18 w') ∧ zs.length - (((k + 1 : Nat) : Int)).toNat < zs.length - ((k : Nat) : Int).toNat := fun d => ⟨⟨k + 1, rfl, hkl, hf42.trans' (.drew _ d)⟩, by omega⟩
  refine ⟨w42, k1, fun hlo => ?_, fun hlo => ⟨fun hhi => ?_, fun hhi => ?_⟩⟩
  · have hlo := of_decide_eq_true hlo
    have hkx : k < xs.length := by omega
    have hxe : xs[k]? = some x := by rw [hzs, List.getElem?_append_left hkx] at hze; exact hze
    obtain ⟨ad2, ws2, had2, _, _, _, d0, d2⟩ := ln_at (hLa'.keep hf42 (by simp)) hxe
    refine ⟨_, c0, ⟨by omega, by omega⟩, ad2, had2, _, by rw [Int.toNat_natCast]; exact d0, ?_⟩
    rw [bs_eq]
    refine ⟨fun h => by simp at h, fun _ => ⟨_, c2, ⟨by omega, by omega⟩, ad2, had2, _, by rw [Int.toNat_natCast]; exact d2, fun h => by simp at h, fun _ => ⟨fun h => ?_, fun _ w59 d59 => hgo d59⟩⟩⟩
    exact absurd (of_decide_eq_true h) (by omega)
  · have hhi := of_decide_eq_true hhi
    have hkx : xs.length ≤ k := by omega
    have hsub : IntKind.i64.wrap ((k : Int) - (la.len : Int)) = ((k - xs.length : Nat) : Int) := by rw [wrap_i64 (by omega) (by omega)]; omega
    have hye : ∃ y, ys[k - xs.length]? = some y ∧ x = y.shift d := by
      rw [hzs, List.getElem?_append_right hkx, List.getElem?_map] at hze
      obtain ⟨y, hy, he⟩ := Option.map_eq_some_iff.1 hze
      exact ⟨y, hy, he.symm⟩
    obtain ⟨y, hy, rfl⟩ := hye
    have hyb := hyat y (List.mem_of_getElem? hy)
    obtain ⟨ad2, ws2, had2, _, _, _, d0, d2⟩ := ln_at (hLb'.keep hf42 (by simp)) hy
    rw [hsub]
    refine ⟨_, c0, ⟨by omega, by omega⟩, ad2, had2, _, by rw [Int.toNat_natCast]; exact d0, ?_⟩
    rw [bs_eq]
    refine ⟨fun h => by simp [LineE.shift] at h, fun _ => ⟨_, c2, ⟨by omega, by omega⟩, ad2, had2, _, by rw [Int.toNat_natCast]; exact d2, fun w67 d67 => ⟨fun h => ?_, fun _ => hgo d67⟩⟩⟩
    exfalso
    rw [wrap_i64 (by omega) (by omega)] at h
    have : ((y.shift d).at_ : Int) = (y.at_ : Int) + (d : Int) := by unfold LineE.shift; simp only; omega
    rw [this] at h; simp at h
  · exact fun w68 d68 => hgo d68
end Go.Proofs.YtmhlmdnhpfhoeaaDoor
