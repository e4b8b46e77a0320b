/- The reference's packed block. Conditions: the stream is in order; the lengths are those of codes. -/
import Derived.Test.YtofejgaanpaieaaInfR4
set_option linter.unusedVariables false
namespace Go.Proofs.Ytofejgaanpaieaa
open Go Vc BitsM HuffM Go.Proofs

theorem TabN.at {w0 : World} {lo hi : Nat} {l : Sl} {xs : List Nat} (h : TabN w0 lo hi l xs) {k x : Nat} (hk : xs[k]? = some x) : ∃ y, l.a = some y ∧ ∀ w', TabN w' lo hi l xs → w'.cell? (y.add k) = some (.int .i64 (x : Int)) := by
  obtain ⟨y, hy, _⟩ := h.get hk
  refine ⟨y, hy, fun w' h' => ?_⟩
  obtain ⟨z, hz, hc⟩ := h'.get hk
  rw [hy] at hz; cases hz; exact hc
theorem BitRows.oblk {w : World} {lo lo' hi : Nat} {o : Sl} {bss : List (List Bool)} (h : BitRows w lo lo' hi o bss) : ∀ x, o.a = some x → lo ≤ x.block ∧ x.block < w.heap.size := by
  obtain ⟨ins, h1, h2, h3⟩ := h
  exact fun x hx => h2.blk hx
theorem RS.pos {w : World} {base b : Nat} {bl0 sl : Sl} {B : List Bool} {p : Nat} {out : List UInt8} {most er : Nat} (h : RS w base b bl0 sl B p out most er) : cellNat w ⟨b, 1, none⟩ = p := by
  unfold cellNat
  rw [cell_blk h.blk]; simp
theorem RS.c4 {w : World} {base b : Nat} {bl0 sl : Sl} {B : List Bool} {p : Nat} {out : List UInt8} {most er : Nat} (h : RS w base b bl0 sl B p out most er) : w.cell? ⟨b, 4, none⟩ = some (.int .i64 (er : Int)) := by
  rw [cell_blk h.blk]; rfl
theorem RS.c2 {w : World} {base b : Nat} {bl0 sl : Sl} {B : List Bool} {p : Nat} {out : List UInt8} {most er : Nat} (h : RS w base b bl0 sl B p out most er) : w.cell? ⟨b, 2, none⟩ = some (.slice sl.a sl.len sl.cap) := by
  rw [cell_blk h.blk]; rfl
theorem RS.len {w : World} {base b : Nat} {bl0 sl : Sl} {B : List Bool} {p : Nat} {out : List UInt8} {most er : Nat} (h : RS w base b bl0 sl B p out most er) : sl.len = out.length := by
  rw [h.own.len, List.length_map]
theorem RS.lts {w : World} {base b : Nat} {bl0 sl : Sl} {B : List Bool} {p : Nat} {out : List UInt8} {most er : Nat} (h : RS w base b bl0 sl B p out most er) : b < w.heap.size ∧ ∀ y, sl.a = some y → y.block < w.heap.size :=
  ⟨Nat.lt_of_lt_of_le h.hb h.hbase, fun y hy => (h.own.blk hy).2⟩
/-- 'packed'. -/
theorem spacked_spec {w : World} {base b : Nat} {bl0 sl : Sl} {B : List Bool} {p : Nat} {out : List UInt8} {most : Nat} (h : RS w base b bl0 sl B p out most 0) (hm : most ≤ 65536) (hout : out.length ≤ most)
    {a a' : Option Addr} {n c n' c' : Nat} {lit dist : List Nat} (hl : Reads w a (nv lit)) (hln : lit.length = n) (hlf : Fits lit) (hls : lit.length ≤ 400) (hd : Reads w a' (nv dist)) (hdn : dist.length = n') (hdf : Fits dist) (hds : dist.length ≤ 400) :
    Calls Try.prog F_cartularyref05_Stream_packed #[.pointer (some ⟨b, 0, none⟩), .slice a n c, .slice a' n' c'] w fun e w' => e = .returned (.tuple #[]) ∧ SOut w w' base b bl0 sl B most (InfM.packed lit dist most B (B.length + 1) p out) := by
  refine vc_cartularyref05_Stream_packed_ok (R := fun v w' => v = .tuple #[] ∧ SOut w w' base b bl0 sl B most (InfM.packed lit dist most B (B.length + 1) p out)) ?_ (fun v w' h => ⟨by rw [h.1], h.2⟩)
  have hsm := h.small
  generalize hr0 : InfM.packed lit dist most B (B.length + 1) p out = r
  obtain ⟨hbw, hslw⟩ := h.lts
  refine (codes_spec hl hln hlf hls).mono ?_
  rintro e w2 ⟨l3, rfl, hc3, hf2⟩
  refine ⟨_, rfl, (codes_spec (hd.keep hf2 (by simp)) hdn hdf hds).mono ?_⟩
  rintro e w5 ⟨l6, rfl, hc6, hf5⟩
  refine ⟨_, rfl, (rlengths_spec w5).mono ?_⟩
  rintro e w8 ⟨l9, l10, l11, l12, rfl, ht9, ht10, ht11, ht12, hf8⟩
  have z2 := hf2.size
  have z5 := hf5.size
  have z8 := hf8.size
  have h8 := ((h.keep hf2 (by simp) (by simp) (by simp)).keep hf5 (by simp) (by simp) (by simp)).keep hf8 (by simp) (by simp) (by simp)
  have hFw8 : Fr (fun k => k = b ∨ At sl k) w w8 := ((hf2.trans' hf5).trans' hf8).mono fun _ _ hk => hk.elim
  have hX : ∀ k, w.heap.size ≤ k → ¬ (k = b ∨ At sl k) := fun k hk hh => by
    rcases hh with hh | ⟨y, hy, e⟩
    · omega
    · have := hslw y hy; omega
  have hc3' := hc3.keep hf5 (by simp) (by simp) |>.keep hf8 (by simp) (by simp)
  have hc6' := hc6.keep hf8 (by simp) (by simp)
  have k3 : ∀ {w' : World}, Fr (fun k => k = b ∨ At sl k) w8 w' → BitRows w' w.heap.size w.heap.size w2.heap.size l3 ((List.range lit.length).map (cbits lit)) := fun hf => hc3'.keep hf (fun x hx => hX _ (hc3.oblk x hx).1) (fun k h1 h2 => hX _ h1)
  have k6 : ∀ {w' : World}, Fr (fun k => k = b ∨ At sl k) w8 w' → BitRows w' w2.heap.size w2.heap.size w5.heap.size l6 ((List.range dist.length).map (cbits dist)) := fun hf => hc6'.keep hf (fun x hx => hX _ (by have := (hc6.oblk x hx).1; omega)) (fun k h1 h2 => hX _ (by omega))
  have kt : ∀ {w' : World} {l : Sl} {xs : List Nat}, Fr (fun k => k = b ∨ At sl k) w8 w' → TabN w8 w5.heap.size w8.heap.size l xs → TabN w' w5.heap.size w8.heap.size l xs := fun hf ht => ht.keep hf fun k h1 h2 => hX _ (by omega)
  -- what the end comes to
  have fin : ∀ {w' : World} {slx : Sl} {px : Nat} {ox : List UInt8}, Fr (fun k => k = b ∨ At sl k) w8 w' → Since w8 sl slx → ((r = .ok (ox, px) ∧ RS w' base b bl0 slx B px ox most 0) ∨ (∃ er, er ≠ 0 ∧ r = .error er ∧ RS w' base b bl0 slx B px ox most er)) → SOut w w' base b bl0 sl B most r := fun hf hs hx =>
    ⟨hFw8.trans' hf, _, _, _, (Since.refl w sl).trans hs (by omega), hx⟩
  refine ⟨_, _, _, _, rfl, fun w' => ∃ sl' p' out', Fr (fun k => k = b ∨ At sl k) w8 w' ∧ Since w8 sl sl' ∧ ((RS w' base b bl0 sl' B p' out' most 0 ∧ out'.length ≤ most ∧ ∃ f, B.length < f + p' ∧ InfM.packed lit dist most B f p' out' = r) ∨ (∃ er, er ≠ 0 ∧ r = .error er ∧ RS w' base b bl0 sl' B p' out' most er)),
    fun w' => B.length - cellNat w' ⟨b, 1, none⟩, ⟨sl, p, out, .refl _ _, .refl _ _, .inl ⟨h8, hout, B.length + 1, by omega, hr0⟩⟩, ?_⟩
  rintro w15 ⟨sl', p', out', hf15, hs15, ⟨h15, hfit, f, hfp, hr⟩ | ⟨er, he, hre, h15⟩⟩
  rotate_left 1
  · exact ⟨_, h15.c4, fun hh => (he (by simpa using hh)).elim, fun _ => ⟨rfl, fin hf15 hs15 (.inr ⟨er, he, hre, h15⟩)⟩⟩
  have hp' := h15.hp
  obtain ⟨g, rfl⟩ : ∃ g, f = g + 1 := ⟨f - 1, by omega⟩
  rw [InfM.packed] at hr
  have bsub : ∀ {w1 w2 : World}, Fr (· = b) w1 w2 → Fr (fun k => k = b ∨ At sl k) w1 w2 := fun hf => hf.mono fun _ _ hk => .inl hk
  refine ⟨_, h15.c4, fun _ => ?_, fun hh => (by simp at hh)⟩
  refine (ssym_spec h15 (k3 hf15) hlf hls).mono ?_
  rintro e w18 ⟨hf18, ⟨v, p1, hsy, rfl, hvl, hp1, h18⟩ | ⟨er, he, hsy, rfl, h18⟩⟩
  rotate_left 1
  · rw [hsy] at hr
    exact ⟨_, rfl, _, h18.c4, fun _ => ⟨rfl, fin (hf15.trans' (bsub hf18)) hs15 (.inr ⟨er, he, hr.symm, h18⟩)⟩, fun hh => (he (by simpa using hh)).elim⟩
  rw [hsy] at hr
  dsimp only at hr
  have hfw18 := hf15.trans' (bsub hf18)
  have hp1B := h18.hp
  refine ⟨_, rfl, _, h18.c4, fun hh => (by simp at hh), fun _ => ⟨fun h256 => ?_, fun hn256 => ?_⟩⟩
  · have h256 : v = 256 := by have : ((v : Nat) : Int) = 256 := by simpa using h256
                              omega
    rw [if_pos h256] at hr
    exact ⟨rfl, fin hfw18 hs15 (.inl ⟨hr.symm, h18⟩)⟩
  have hn256 : v ≠ 256 := fun hz => by rw [hz] at hn256; simp at hn256
  rw [if_neg hn256] at hr
  refine ⟨fun hlt => ?_, fun hge => ?_⟩
  · have hlt := of_decide_eq_true hlt
    have hlt : v < 256 := by omega
    rw [if_pos hlt] at hr
    rw [wrap_u8 (by omega) (by omega)]
    refine (sput h18 hlt hm).mono ?_
    rintro e w22 ⟨rfl, hf22, hres⟩
    have hf22' := outs hfw18 hs15 hf22
    rcases hres with ⟨hfull, h22⟩ | ⟨hroom, sl2, h22, hsn⟩
    · rw [if_pos (by omega)] at hr
      refine ⟨rfl, ⟨sl', p1, out', hf22', hs15, .inr ⟨2, by decide, hr.symm, h22⟩⟩, ?_⟩
      dsimp only; rw [h22.pos, h15.pos]; omega
    · rw [if_neg (by omega)] at hr
      refine ⟨rfl, ⟨sl2, p1, _, hf22', hs15.trans hsn hfw18.size, .inl ⟨h22, by simp; omega, g, by omega, hr⟩⟩, ?_⟩
      dsimp only; rw [h22.pos, h15.pos]; omega
  have hge := of_decide_eq_false hge
  rw [if_neg (show ¬ v < 256 by omega)] at hr
  generalize hrep : InfM.rep dist most B v p1 out' = r2 at hr
  unfold InfM.rep at hrep
  have rbad : ∀ {er : Nat}, r2 = .error er → r = .error er := fun hx => by rw [hx] at hr; exact hr.symm
  refine ⟨fun hgt => ?_, fun hle w25 d25 => ?_⟩
  · have hgt := of_decide_eq_true hgt
    rw [if_pos (show 285 < v by omega)] at hrep
    refine (fail_spec h18 3).mono ?_
    rintro e w24 ⟨rfl, h24, hf24⟩
    exact ⟨rfl, rfl, fin (hfw18.trans' (bsub hf24)) hs15 (.inr ⟨3, by decide, rbad hrep.symm, h24⟩)⟩
  have hle := of_decide_eq_false hle
  rw [if_neg (show ¬ 285 < v by omega)] at hrep
  have h25 := h18.drew d25
  have hf25 := hfw18.trans' (.drew _ d25)
  have e1 : IntKind.i64.wrap ((v : Int) - 257) = ((v - 257 : Nat) : Int) := by rw [wrap_i64 (by omega) (by omega)]; omega
  have hv28 : v - 257 < 29 := by omega
  obtain ⟨hl1, hl2⟩ := InfM.lenBase_le (v - 257) (by omega)
  obtain ⟨a9, ha9, hc9⟩ := ht9.at (k := v - 257) (x := (InfM.lenBase (v - 257)).1) (by rw [List.getElem?_map, List.getElem?_range hv28]; rfl)
  obtain ⟨a10, ha10, hc10⟩ := ht10.at (k := v - 257) (x := (InfM.lenBase (v - 257)).2) (by rw [List.getElem?_map, List.getElem?_range hv28]; rfl)
  have n9 : l9.len = 29 := by rw [ht9.2.1]; simp
  have n10 : l10.len = 29 := by rw [ht10.2.1]; simp
  have n11 : l11.len = 30 := by rw [ht11.2.1]; simp
  have n12 : l12.len = 30 := by rw [ht12.2.1]; simp
  generalize InfM.lenBase (v - 257) = L at hl1 hl2 hc9 hc10 hrep
  rw [e1]
  refine ⟨fun w' => Fr (fun k => k = b ∨ At sl k) w8 w', hf25, ⟨by omega, by omega⟩, a9, ha9, _, fun w' hw' => (by rw [Int.toNat_natCast, Nat.mul_one]; exact hc9 _ (kt hw' ht9)), ⟨by omega, by omega⟩, a10, ha10, _, fun w' hw' => (by rw [Int.toNat_natCast, Nat.mul_one]; exact hc10 _ (kt hw' ht10)), ?_⟩
  have hm5 : 2 ^ L.2 ≤ 2 ^ 5 := Nat.pow_le_pow_right (by decide) hl2
  refine (snumber_spec h25 (n := L.2) (by omega)).mono ?_
  rintro e w34 ⟨hf34, ⟨more, p2, htk, rfl, h34⟩ | ⟨htk, rfl, h34⟩⟩
  rotate_left 1
  · rw [htk] at hrep
    have hf34' := hf25.trans' (bsub hf34)
    refine ⟨_, rfl, hf34', (ssym_idle h34 (by decide) l6).mono ?_⟩
    rintro e w37 ⟨rfl, hw⟩
    replace hw := hw.symm
    subst hw
    refine ⟨_, rfl, fun w' => w' = w34, ⟨_, h34.c4, fun hh => (by simp at hh), fun _ => rfl⟩, ?_⟩
    rintro w43 hw
    replace hw := hw.symm
    subst hw
    exact ⟨_, h34.c4, fun _ => ⟨rfl, fin hf34' hs15 (.inr ⟨6, by decide, rbad hrep.symm, h34⟩)⟩, fun hh => (by simp at hh)⟩
  rw [htk] at hrep
  dsimp only at hrep
  obtain ⟨_, _, hp2, hmore⟩ := take_ok htk
  have hf34' := hf25.trans' (bsub hf34)
  refine ⟨_, rfl, hf34', (ssym_spec h34 (k6 hf34') hdf hds).mono ?_⟩
  rintro e w37 ⟨hf37, ⟨d, p3, hsy2, rfl, hdl, hp3, h37⟩ | ⟨er, he, hsy2, rfl, h37⟩⟩
  rotate_left 1
  · rw [hsy2] at hrep
    have hf37' := hf34'.trans' (bsub hf37)
    refine ⟨_, rfl, fun w' => w' = w37, ⟨_, h37.c4, fun hh => (he (by simpa using hh)).elim, fun _ => rfl⟩, ?_⟩
    rintro w43 hw
    replace hw := hw.symm
    subst hw
    exact ⟨_, h37.c4, fun _ => ⟨rfl, fin hf37' hs15 (.inr ⟨er, he, rbad hrep.symm, h37⟩)⟩, fun hh => (he (by simpa using hh)).elim⟩
  rw [hsy2] at hrep
  dsimp only at hrep
  have hf37' := hf34'.trans' (bsub hf37)
  refine ⟨_, rfl, fun w' => Fr (fun k => k = b ∨ At sl k) w8 w' ∧ ((d ≤ 29 ∧ RS w' base b bl0 sl' B p3 out' most 0 ∧ w'.heap.size = w37.heap.size) ∨ (29 < d ∧ RS w' base b bl0 sl' B p3 out' most 3)), ⟨_, h37.c4, fun _ => ⟨fun hgt => ?_, fun hle => ?_⟩, fun hh => (by simp at hh)⟩, ?_⟩
  · have hgt := of_decide_eq_true hgt
    refine (fail_spec h37 3).mono ?_
    rintro e w42 ⟨rfl, h42, hf42⟩
    exact ⟨rfl, hf37'.trans' (bsub hf42), .inr ⟨by omega, h42⟩⟩
  · have hle := of_decide_eq_false hle
    exact ⟨hf37', .inl ⟨by omega, h37, rfl⟩⟩
  rintro w43 ⟨hf43, ⟨hd29, h43, _⟩ | ⟨hd29, h43⟩⟩
  rotate_left 1
  · rw [if_pos hd29] at hrep
    exact ⟨_, h43.c4, fun _ => ⟨rfl, fin hf43 hs15 (.inr ⟨3, by decide, rbad hrep.symm, h43⟩)⟩, fun hh => (by simp at hh)⟩
  rw [if_neg (show ¬ 29 < d by omega)] at hrep
  refine ⟨_, h43.c4, fun hh => (by simp at hh), fun _ w45 d45 => ?_⟩
  have h45 := h43.drew d45
  have hf45 := hf43.trans' (.drew _ d45)
  obtain ⟨hd1, hd2, hd3⟩ := InfM.distBase_le d (by omega)
  have hd30 : d < 30 := by omega
  obtain ⟨a11, ha11, hc11⟩ := ht11.at (k := d) (x := (InfM.distBase d).1) (by rw [List.getElem?_map, List.getElem?_range hd30]; rfl)
  obtain ⟨a12, ha12, hc12⟩ := ht12.at (k := d) (x := (InfM.distBase d).2) (by rw [List.getElem?_map, List.getElem?_range hd30]; rfl)
  generalize InfM.distBase d = D at hd1 hd2 hd3 hc11 hc12 hrep
  refine ⟨fun w' => Fr (fun k => k = b ∨ At sl k) w8 w', hf45, ⟨by omega, by omega⟩, a11, ha11, _, fun w' hw' => (by rw [Int.toNat_natCast, Nat.mul_one]; exact hc11 _ (kt hw' ht11)), ⟨by omega, by omega⟩, a12, ha12, _, fun w' hw' => (by rw [Int.toNat_natCast, Nat.mul_one]; exact hc12 _ (kt hw' ht12)), ?_⟩
  have hm13 : 2 ^ D.2 ≤ 2 ^ 13 := Nat.pow_le_pow_right (by decide) hd3
  have en : IntKind.i64.wrap ((L.1 : Int) + (more : Int)) = ((L.1 + more : Nat) : Int) := by rw [wrap_i64 (by omega) (by omega)]; omega
  have hn300 : L.1 + more ≤ 300 := by omega
  refine (snumber_spec h45 (n := D.2) (by omega)).mono ?_
  rintro e w54 ⟨hf54, ⟨far, p4, htk2, rfl, h54⟩ | ⟨htk2, rfl, h54⟩⟩
  rotate_left 1
  · rw [htk2] at hrep
    have hf54' := hf45.trans' (bsub hf54)
    refine ⟨_, rfl, hf54', fun w' => w' = w54, ⟨_, h54.c4, fun hh => (by simp at hh), fun _ => rfl⟩, ?_⟩
    rintro w61 hw
    replace hw := hw.symm
    subst hw
    refine ⟨fun _ w' => w' = w54, fun _ _ => 0, rfl, ?_⟩
    rintro i w65 hw
    replace hw := hw.symm
    subst hw
    have done : (∃ sl' p' out', Fr (fun k => k = b ∨ At sl k) w8 w54 ∧ Since w8 sl sl' ∧ ((RS w54 base b bl0 sl' B p' out' most 0 ∧ out'.length ≤ most ∧ ∃ f, B.length < f + p' ∧ InfM.packed lit dist most B f p' out' = r) ∨ (∃ er, er ≠ 0 ∧ r = .error er ∧ RS w54 base b bl0 sl' B p' out' most er))) ∧ B.length - cellNat w54 ⟨b, 1, none⟩ < B.length - cellNat w15 ⟨b, 1, none⟩ :=
      ⟨⟨sl', p3, out', hf54', hs15, .inr ⟨6, by decide, rbad hrep.symm, h54⟩⟩, by rw [h54.pos, h15.pos]; have := h54.hp; omega⟩
    exact ⟨fun _ => ⟨_, h54.c4, fun hh => (by simp at hh), fun _ => done⟩, fun _ => done⟩
  rw [htk2] at hrep
  dsimp only at hrep
  obtain ⟨_, _, hp4, hfar⟩ := take_ok htk2
  have hf54' := hf45.trans' (bsub hf54)
  have eback : IntKind.i64.wrap ((D.1 : Int) + (far : Int)) = ((D.1 + far : Nat) : Int) := by rw [wrap_i64 (by omega) (by omega)]; omega
  have hback1 : 1 ≤ D.1 + far := by omega
  have hback2 : D.1 + far ≤ 40000 := by omega
  refine ⟨_, rfl, hf54', ?_⟩
  rw [en, eback]
  generalize D.1 + far = back at hback1 hback2 hrep ⊢
  generalize L.1 + more = n at hn300 hrep ⊢
  refine ⟨fun w' => Fr (fun k => k = b ∨ At sl k) w8 w' ∧ ((back ≤ out'.length ∧ RS w' base b bl0 sl' B p4 out' most 0) ∨ (out'.length < back ∧ RS w' base b bl0 sl' B p4 out' most 3)), ⟨_, h54.c4, fun _ => ⟨_, h54.c2, fun hgt => ?_, fun hle => ?_⟩, fun hh => (by simp at hh)⟩, ?_⟩
  · have hgt := of_decide_eq_true hgt
    rw [h54.len] at hgt
    refine (fail_spec h54 3).mono ?_
    rintro e w60 ⟨rfl, h60, hf60⟩
    exact ⟨rfl, hf54'.trans' (bsub hf60), .inr ⟨by omega, h60⟩⟩
  · have hle := of_decide_eq_false hle
    rw [h54.len] at hle
    exact ⟨hf54', .inl ⟨by omega, h54⟩⟩
  rintro w61 ⟨hf61, ⟨hbk, h61⟩ | ⟨hbk, h61⟩⟩
  rotate_left 1
  · rw [if_pos hbk] at hrep
    refine ⟨fun _ w' => w' = w61, fun _ _ => 0, rfl, ?_⟩
    rintro i w65 hw
    replace hw := hw.symm
    subst hw
    have done : (∃ sl' p' out', Fr (fun k => k = b ∨ At sl k) w8 w61 ∧ Since w8 sl sl' ∧ ((RS w61 base b bl0 sl' B p' out' most 0 ∧ out'.length ≤ most ∧ ∃ f, B.length < f + p' ∧ InfM.packed lit dist most B f p' out' = r) ∨ (∃ er, er ≠ 0 ∧ r = .error er ∧ RS w61 base b bl0 sl' B p' out' most er))) ∧ B.length - cellNat w61 ⟨b, 1, none⟩ < B.length - cellNat w15 ⟨b, 1, none⟩ :=
      ⟨⟨sl', p4, out', hf61, hs15, .inr ⟨3, by decide, rbad hrep.symm, h61⟩⟩, by rw [h61.pos, h15.pos]; have := h61.hp; omega⟩
    exact ⟨fun _ => ⟨_, h61.c4, fun hh => (by simp at hh), fun _ => done⟩, fun _ => done⟩
  rw [if_neg (show ¬ out'.length < back by omega)] at hrep
  refine ⟨fun i w' => Fr (fun k => k = b ∨ At sl k) w8 w' ∧ ∃ sl2, Since w8 sl sl2 ∧ ((∃ k : Nat, i = (k : Int) ∧ k ≤ n ∧ out'.length + k ≤ most ∧ RS w' base b bl0 sl2 B p4 (InfM.copy back k out') most 0) ∨ (most < out'.length + n ∧ ∃ ox, RS w' base b bl0 sl2 B p4 ox most 2)),
    fun i _ => n - i.toNat, ⟨hf61, sl', hs15, .inl ⟨0, rfl, Nat.zero_le _, hfit, h61⟩⟩, ?_⟩
  rintro i w65 ⟨hf65, sl2, hs65, ⟨k, rfl, hk, hkm, h65⟩ | ⟨hfull, ox, h65⟩⟩
  rotate_left 1
  · rw [if_pos hfull] at hrep
    have done : (∃ sl' p' out', Fr (fun k => k = b ∨ At sl k) w8 w65 ∧ Since w8 sl sl' ∧ ((RS w65 base b bl0 sl' B p' out' most 0 ∧ out'.length ≤ most ∧ ∃ f, B.length < f + p' ∧ InfM.packed lit dist most B f p' out' = r) ∨ (∃ er, er ≠ 0 ∧ r = .error er ∧ RS w65 base b bl0 sl' B p' out' most er))) ∧ B.length - cellNat w65 ⟨b, 1, none⟩ < B.length - cellNat w15 ⟨b, 1, none⟩ :=
      ⟨⟨sl2, p4, ox, hf65, hs65, .inr ⟨2, by decide, rbad hrep.symm, h65⟩⟩, by rw [h65.pos, h15.pos]; have := h65.hp; omega⟩
    exact ⟨fun _ => ⟨_, h65.c4, fun hh => (by simp at hh), fun _ => done⟩, fun _ => done⟩
  have e3 : IntKind.i64.wrap ((k : Int) + 1) = ((k + 1 : Nat) : Int) := by rw [wrap_i64 (by omega) (by omega)]; omega
  have hcl := InfM.copy_length back k out'
  have hcs := InfM.copy_succ back k out'
  refine ⟨fun hlt => ⟨_, h65.c4, fun _ w67 d67 => ?_, fun hh => (by simp at hh)⟩, fun hge => ?_⟩
  · have hlt := of_decide_eq_true hlt
    have h67 := h65.drew d67
    have hlen := h67.len
    have eidx : IntKind.i64.wrap ((sl2.len : Int) - (back : Int)) = ((out'.length + k - back : Nat) : Int) := by
      rw [hlen, hcl, wrap_i64 (by omega) (by omega)]; omega
    refine ⟨fun w' => w' = w67, rfl, sl2, fun w' hw => hw ▸ h67.c2, sl2, fun w' hw => hw ▸ h67.c2, ?_⟩
    rw [eidx, e3]
    refine ⟨⟨by omega, by rw [hlen, hcl]; omega⟩, ?_⟩
    rw [hcl] at hcs
    generalize hcc : InfM.copy back k out' = cur at hcl hcs h65 h67 hlen
    have hlt2 : out'.length + k - back < cur.length := by omega
    obtain ⟨ax, hax, hcx⟩ := h67.own.reads _ _ (show (byteV cur)[out'.length + k - back]? = some (.int .u8 ((cur[out'.length + k - back]'hlt2).toNat : Int)) by simp [byteV, hlt2])
    refine ⟨ax, hax, _, fun w' hw => (by rw [hw, Int.toNat_natCast, Nat.mul_one]; exact hcx), ?_⟩
    refine (sput h67 (cur[out'.length + k - back]'hlt2).toNat_lt hm).mono ?_
    rintro e w77 ⟨rfl, hf77, hres⟩
    have hf77' := outs (hf65.trans' (.drew _ d67)) hs65 hf77
    rcases hres with ⟨hfull, h77⟩ | ⟨hroom, sl3, h77, hsn⟩
    · exact ⟨rfl, ⟨hf77', sl2, hs65, .inr ⟨by omega, _, h77⟩⟩, by dsimp only; omega⟩
    · have hg : cur.getD (out'.length + k - back) 0 = cur[out'.length + k - back]'hlt2 := by simp [List.getD, hlt2]
      rw [UInt8.ofNat_toNat, ← hg, ← hcs] at h77
      exact ⟨rfl, ⟨hf77', sl3, hs65.trans hsn (hf65.trans' (.drew _ d67)).size, .inl ⟨k + 1, rfl, by omega, by omega, h77⟩⟩, by dsimp only; omega⟩
  · have hge := of_decide_eq_false hge
    have hkn : k = n := by omega
    subst hkn
    rw [if_neg (show ¬ most < out'.length + k by omega)] at hrep
    rw [← hrep] at hr
    exact ⟨⟨sl2, p4, _, hf65, hs65, .inl ⟨h65, by omega, g, by omega, hr⟩⟩, by dsimp only; rw [h65.pos, h15.pos]; have := h65.hp; omega⟩
end Go.Proofs.Ytofejgaanpaieaa
