/- The reference's Inflate answers as the model does. Condition: the text is no longer than a slice may be. -/
import Derived.Test.YtofejgaanpaieaaInfR6
import Derived.Test.YtofejgaanpaieaaInfN
import Derived.Test.YtofejgaanpaieaaInfI
set_option linter.unusedVariables false
namespace Go.Proofs.Ytofejgaanpaieaa
open Go Vc BitsM HuffM Go.Proofs

theorem rinfl_spec (s : ByteArray) (hs : s.size ≤ 100000000) (at_ most : Int) (w : World) :
    Calls Try.prog F_cartularyref05_Inflate #[.string s, .int .i64 at_, .int .i64 most] w fun e w' => e = .returned (ans3 (InfM.inflate s.data.toList at_ most)) ∧ Fr (fun _ => False) w w' := by
  refine vc_cartularyref05_Inflate_ok (R := fun v w' => v = ans3 (InfM.inflate s.data.toList at_ most) ∧ Fr (fun _ => False) w w') ?_ (fun v w' h => ⟨by rw [h.1], h.2⟩)
  have hsl : (s.data.toList.length : Int) = (s.size : Int) := by simp
  have bad : (at_ < 0 ∨ (s.size : Int) < at_ ∨ most < 0 ∨ 65536 < most) → InfM.inflate s.data.toList at_ most = ([], 0, 1) := fun h => by
    unfold InfM.inflate; rw [hsl, if_pos h]
  refine ⟨fun h1 => ?_, fun h1 => ⟨fun h2 => ?_, fun h2 => ⟨fun h3 => ?_, fun h3 => ⟨fun h4 => ?_, fun h4 => ?_⟩⟩⟩⟩
  · rw [bad (.inl (of_decide_eq_true h1))]; exact ⟨rfl, .refl _ _⟩
  · rw [bad (.inr (.inl (of_decide_eq_true h2)))]; exact ⟨rfl, .refl _ _⟩
  · rw [bad (.inr (.inr (.inl (of_decide_eq_true h3))))]; exact ⟨rfl, .refl _ _⟩
  · rw [bad (.inr (.inr (.inr (of_decide_eq_true h4))))]; exact ⟨rfl, .refl _ _⟩
  have h1 := of_decide_eq_false h1
  have h2 := of_decide_eq_false h2
  have h3 := of_decide_eq_false h3
  have h4 := of_decide_eq_false h4
  obtain ⟨off, rfl⟩ : ∃ off : Nat, at_ = (off : Int) := ⟨at_.toNat, by omega⟩
  obtain ⟨mo, rfl⟩ : ∃ mo : Nat, most = (mo : Int) := ⟨most.toNat, by omega⟩
  have hmo : mo ≤ 65536 := by omega
  refine ⟨⟨by omega, by omega⟩, ?_⟩
  rw [Int.toNat_natCast]
  have hsub : (s.extract off s.size).data.toList = s.data.toList.drop off := by
    rw [extract_list, List.take_of_length_le (by simp)]
  have good : InfM.inflate s.data.toList off mo = match InfM.inf mo (sbits (s.extract off s.size).data.toList) with
      | .error e => ([], 0, e)
      | .ok (out, p) => (out, (p + 7) / 8, 0) := by
    unfold InfM.inflate
    rw [hsl, if_neg (by omega), Int.toNat_natCast, Int.toNat_natCast, hsub]
    rfl
  rw [good]
  have hesz : (s.extract off s.size).size ≤ 100000000 := by simp; omega
  generalize s.extract off s.size = t at hesz
  refine (bits_spec t (by omega) w).mono ?_
  rintro e w2 ⟨l3, rfl, hob, hf2⟩
  refine ⟨l3, rfl, fun w4 h4' => ?_⟩
  have hBl : (sbits t.data.toList).length = 8 * t.size := by rw [sbits_length]; simp
  generalize sbits t.data.toList = B at hob hBl
  have hs2 := hf2.size
  have hf4 : Fr (fun _ => False) w2 w4 := h4' ▸ Fr.alloc _ _ _
  have hs4 : w4.heap.size = w2.heap.size + 1 := by rw [h4']; exact Array.size_push ..
  generalize hb : w2.heap.size = b at *
  have hlb : ∀ x, l3.a = some x → x.block < b := fun x hx => by have := (hob.blk hx).2; omega
  have hst : RS w4 (b + 1) b l3 ⟨none, 0, 0⟩ B 0 [] mo 0 :=
    ⟨by rw [h4', ← hb]; exact alloc_new _ _, .nil _ _ _, (hob.keep hf4 (by simp)).reads, by rw [hob.len]; simp [bl], hob.cap, by omega, by omega, fun x hx => ⟨by have := hlb x hx; omega, by have := hlb x hx; omega⟩, by omega, Nat.zero_le _⟩
  have hfw4 : Fr (fun _ => False) w w4 := hf2.trans' hf4
  obtain ⟨r, hr0⟩ : ∃ r, InfM.inf mo B = r := ⟨_, rfl⟩
  rw [hr0]
  unfold InfM.inf at hr0
  have far : ∀ {w1 w2 : World} {slx : Sl} {px ex : Nat} {ox : List UInt8}, Fr (fun _ => False) w w1 → RS w1 (b + 1) b l3 slx B px ox mo ex → Fr (fun k => k = b ∨ At slx k) w1 w2 → Fr (fun _ => False) w w2 := fun h1 hx h2 => h1.trans h2 fun k hk hh => by
    rcases hh with hh | ⟨y, hy, e⟩
    · omega
    · have := (hx.own.blk hy).1; omega
  have farb : ∀ {w1 w2 : World}, Fr (fun _ => False) w w1 → Fr (· = b) w1 w2 → Fr (fun _ => False) w w2 := fun h1 h2 => h1.trans h2 fun k hk hh => by omega
  refine ⟨fun w' => Fr (fun _ => False) w w' ∧ ∃ sl p out er, RS w' (b + 1) b l3 sl B p out mo er ∧ ((er = 0 ∧ out.length ≤ mo ∧ ∃ f, B.length < f + p ∧ InfM.blocks mo B f p out = r) ∨ (er ≠ 0 ∧ r = .error er)),
    fun w' => (B.length + 1) * (1 - cellNat w' ⟨b, 4, none⟩) + (B.length - cellNat w' ⟨b, 1, none⟩), ⟨hfw4, _, 0, [], 0, hst, .inl ⟨rfl, Nat.zero_le _, B.length + 1, by omega, hr0⟩⟩, ?_⟩
  rintro w7 ⟨hf7, sl, p, out, er, h7, ⟨rfl, hfit, f, hfp, hr⟩ | ⟨he, hre⟩⟩
  rotate_left 1
  · refine ⟨_, h7.c4, fun hh => (he (by simpa using hh)).elim, fun _ => ⟨_, h7.c4, fun w55 d55 => ?_⟩⟩
    rw [hre]
    exact ⟨rfl, hf7.trans' (.drew _ d55)⟩
  have hp := h7.hp
  obtain ⟨g, rfl⟩ : ∃ g, f = g + 1 := ⟨f - 1, by omega⟩
  have e1 : IntKind.i64.wrap ((l3.len : Int) - (p : Int)) = ((B.length - p : Nat) : Int) := by have := h7.blen; rw [wrap_i64 (by omega) (by omega)]; omega
  refine ⟨_, h7.c4, fun _ => ?_, fun hh => (by simp at hh)⟩
  refine ⟨fun w' => Fr (fun _ => False) w w' ∧ ∃ er, RS w' (b + 1) b l3 sl B p out mo er ∧ ((er = 0 ∧ p + 3 ≤ B.length) ∨ (er = 6 ∧ B.length < p + 3)), ⟨l3, by rw [cell_blk h7.blk]; rfl, (p : Int), by rw [cell_blk h7.blk]; rfl, fun w12 d12 => ?_⟩, ?_⟩
  · rw [e1]
    refine ⟨fun hlt => ?_, fun hge => ?_⟩
    · have hlt := of_decide_eq_true hlt
      refine (fail_spec (h7.drew d12) 6).mono ?_
      rintro e w14 ⟨rfl, h14, hf14⟩
      exact ⟨rfl, farb (hf7.trans' (.drew _ d12)) hf14, 6, h14, .inr ⟨rfl, by omega⟩⟩
    · have hge := of_decide_eq_false hge
      exact ⟨hf7.trans' (.drew _ d12), 0, h7.drew d12, .inl ⟨rfl, by omega⟩⟩
  rintro w15 ⟨hf15, er, h15, hcase⟩
  refine (snum_g h15 (n := 1) (by omega) (by omega)).mono ?_
  rintro e w17 ⟨v1, p1, rfl, hv1, h17, hf17, g1⟩
  refine ⟨_, rfl, (snum_g h17 (n := 2) (by omega) (by omega)).mono ?_⟩
  rintro e w20 ⟨v2, p2, rfl, hv2, h20, hf20, g2⟩
  have hf20' := farb (farb hf15 hf17) hf20
  have hv1' : v1 < 2 := hv1
  have hv2' : v2 < 4 := hv2
  have hpos7 := h7.pos
  have herr7 := h7.err
  refine ⟨_, rfl, fun w' => Fr (fun _ => False) w w' ∧ ∃ sl' p' out' er', RS w' (b + 1) b l3 sl' B p' out' mo er' ∧ ((er' = 0 ∧ out'.length ≤ mo ∧ p + 3 ≤ p' ∧ (if v1 = 1 then r = .ok (out', p') else InfM.blocks mo B g p' out' = r)) ∨ (er' ≠ 0 ∧ r = .error er')), ?_, ?_⟩
  · rw [InfM.blocks] at hr
    rcases hcase with ⟨rfl, hlen⟩ | ⟨rfl, hlen⟩
    rotate_left 1
    · have htk : InfM.take B 3 p = .error 6 := by unfold InfM.take; rw [if_neg (by omega)]
      rw [htk] at hr
      exact ⟨_, h20.c4, fun hh => (by simp at hh), fun _ => ⟨hf20', sl, p2, out, 6, h20, .inr ⟨by decide, hr.symm⟩⟩⟩
    obtain ⟨a1, a2⟩ := g1 rfl
    obtain ⟨b1, b2⟩ := g2 rfl
    subst a2
    subst b2
    have hnum : num ((B.drop p).take 3) = v1 + 2 * v2 := by
      rw [show 3 = 1 + 2 from rfl, List.take_add, num_append, List.drop_drop, List.length_take, List.length_drop, show min 1 (B.length - p) = 1 by omega, ← a1, ← b1]
    have htk : InfM.take B 3 p = .ok (v1 + 2 * v2, p + 3) := by unfold InfM.take; rw [if_pos hlen, hnum]
    rw [htk] at hr
    dsimp only at hr
    rw [show (v1 + 2 * v2) / 2 = v2 by omega, show (v1 + 2 * v2) % 2 = v1 by omega] at hr
    rw [show p + 1 + 2 = p + 3 by omega] at h20
    have hgood := InfM.block_good (Nat.le_refl mo) B v2 (p + 3) out hfit
    generalize hblk : InfM.block mo B v2 (p + 3) out = rb at hr hgood
    -- what a block leaves
    have leave : ∀ {w' wa : World} {sla : Sl} {pa ea : Nat} {oa : List UInt8}, Fr (fun _ => False) w wa → RS wa (b + 1) b l3 sla B pa oa mo ea → SOut wa w' (b + 1) b l3 sla B mo rb → Fr (fun _ => False) w w' ∧ ∃ sl' p' out' er', RS w' (b + 1) b l3 sl' B p' out' mo er' ∧ ((er' = 0 ∧ out'.length ≤ mo ∧ p + 3 ≤ p' ∧ (if v1 = 1 then r = .ok (out', p') else InfM.blocks mo B g p' out' = r)) ∨ (er' ≠ 0 ∧ r = .error er')) := by
      rintro w' wa sla pa ea oa hfa ha ⟨hf, sl', p', out', hs, ⟨hok, h'⟩ | ⟨er, he, hee, h'⟩⟩
      · rw [hok] at hr
        dsimp only at hr
        refine ⟨far hfa ha hf, sl', p', out', 0, h', .inl ⟨rfl, ?_, InfM.block_le (hblk.trans hok), ?_⟩⟩
        · rcases hgood with hg | ⟨_, hg⟩
          · rw [hok] at hg; cases hg
          · exact hg _ _ hok
        · by_cases h1 : v1 = 1
          · rw [if_pos h1] at hr ⊢; exact hr.symm
          · rw [if_neg h1] at hr ⊢; exact hr
      · rw [hee] at hr
        exact ⟨far hfa ha hf, sl', p', out', er, h', .inr ⟨he, hr.symm⟩⟩
    unfold InfM.block at hblk
    refine ⟨_, h20.c4, fun _ => ⟨fun hk0 => ?_, fun hk0 => ⟨fun hk1 => ?_, fun hk1 => ⟨fun hk2 => ?_, fun hk2 => ⟨fun hk3 => ?_, fun hk3 => ?_⟩⟩⟩⟩, fun hh => (by simp at hh)⟩
    · have hk : v2 = 0 := by have := eq_of_beq hk0; omega
      rw [if_pos hk] at hblk
      refine (sstored_spec h20 hmo hfit (by omega)).mono ?_
      rintro e w25 ⟨rfl, hso⟩
      rw [hblk] at hso
      exact ⟨rfl, leave hf20' h20 hso⟩
    · have hk : v2 = 1 := by have := eq_of_beq hk1; omega
      rw [if_neg (by omega), if_pos hk] at hblk
      refine (rfixed_spec w20).mono ?_
      rintro e w27 ⟨l, d, rfl, hl, hll, hd, hdl, hf27⟩
      have h27 := h20.keep hf27 (by simp) (by simp) (by simp)
      have g1 : InfM.fixedLit.length = 288 := by rw [fixedLit_eq]; simp
      have g2 : InfM.fixedDist.length = 32 := by rw [fixedDist_eq]; simp
      have c1 := InfM.chk_fits fixedLit_chk
      have c2 := InfM.chk_fits fixedDist_chk
      generalize InfM.fixedLit = LL at hl g1 c1 hblk
      generalize InfM.fixedDist = DD at hd g2 c2 hblk
      refine ⟨l, d, rfl, (spacked_spec h27 hmo hfit hl (by omega) c1 (by omega) hd (by omega) c2 (by omega)).mono ?_⟩
      rintro e w31 ⟨rfl, hso⟩
      rw [hblk] at hso
      exact ⟨rfl, leave (hf20'.trans' hf27) h27 hso⟩
    · have hk : v2 = 2 := by have := eq_of_beq hk2; omega
      rw [if_neg (by omega), if_neg (by omega), if_pos hk] at hblk
      refine (sdynamic_spec h20).mono ?_
      rintro e w33 ⟨v, rfl, hf33, l, d, rfl, ⟨lit, dist, p', ht, h33, hl, hll, hd, hdl, c1, c2, k1, k2⟩ | ⟨er, p', he, ht, h33⟩⟩
      · rw [ht] at hblk
        dsimp only at hblk
        refine ⟨l, d, rfl, _, h33.c4, fun _ => ?_, fun hh => (by simp at hh)⟩
        refine (spacked_spec h33 hmo hfit hl hll (InfM.chk_fits c1) k1 hd hdl (InfM.chk_fits c2) k2).mono ?_
        rintro e w38 ⟨rfl, hso⟩
        rw [hblk] at hso
        exact ⟨rfl, leave (farb hf20' hf33) h33 hso⟩
      · rw [ht] at hblk
        dsimp only at hblk
        refine ⟨l, d, rfl, _, h33.c4, fun hh => (he (by simpa using hh)).elim, fun _ => ?_⟩
        rw [← hblk] at hr
        exact ⟨farb hf20' hf33, sl, p', out, er, h33, .inr ⟨he, hr.symm⟩⟩
    · have hk : v2 = 3 := by have := eq_of_beq hk3; omega
      rw [if_neg (by omega), if_neg (by omega), if_neg (by omega)] at hblk
      refine (fail_spec h20 3).mono ?_
      rintro e w40 ⟨rfl, h40, hf40⟩
      rw [← hblk] at hr
      exact ⟨rfl, farb hf20' hf40, sl, _, out, 3, h40, .inr ⟨by decide, hr.symm⟩⟩
    · exfalso
      have z0 : v2 ≠ 0 := fun hh => by rw [hh] at hk0; simp at hk0
      have z1 : v2 ≠ 1 := fun hh => by rw [hh] at hk1; simp at hk1
      have z2 : v2 ≠ 2 := fun hh => by rw [hh] at hk2; simp at hk2
      have z3 : v2 ≠ 3 := fun hh => by rw [hh] at hk3; simp at hk3
      omega
  rintro w41 ⟨hf41, sl', p', out', er', h41, ⟨rfl, hfit', hpp, hcase'⟩ | ⟨he, hre⟩⟩
  · refine ⟨_, h41.c4, fun _ => ⟨fun hl1 w43 d43 => ?_, fun hn1 => ?_⟩, fun hh => (by simp at hh)⟩
    · have hl1 : v1 = 1 := by have := eq_of_beq hl1; omega
      rw [if_pos hl1] at hcase'
      have h43 := h41.drew d43
      have hp43 := h43.hp
      refine ⟨fun w' => w' = w43, rfl, sl', fun w' hw' => hw' ▸ h43.c2, (p' : Int), fun w' hw' => (by rw [hw', cell_blk h43.blk]; rfl), ⟨out'.toArray⟩, fun w' hw' => ?_, ?_⟩
      · subst hw'
        exact bytes_str (e := T_uint8) (by kernel_rfl) (by kernel_rfl) (by kernel_rfl) sl'.cap h43.own.reads h43.len.symm
      refine (up_spec p' (by omega) w43).mono ?_
      rintro e w52 ⟨rfl, hw⟩
      subst hw
      refine ⟨_, rfl, rfl, by decide, ?_, hf41.trans' (.drew _ d43)⟩
      rw [hcase']
      unfold ans3
      have : IntKind.i64.wrap (Int.tdiv (((p' + 7) / 8 * 8 : Nat) : Int) 8) = (((p' + 7) / 8 : Nat) : Int) := by
        rw [Int.tdiv_eq_ediv_of_nonneg (by omega), wrap_i64 (by omega) (by omega)]; omega
      rw [this]
      rfl
    · have hn1 : v1 ≠ 1 := fun hh => by rw [hh] at hn1; simp at hn1
      rw [if_neg hn1] at hcase'
      refine ⟨⟨hf41, sl', p', out', 0, h41, .inl ⟨rfl, hfit', g, by omega, hcase'⟩⟩, ?_⟩
      have := h41.hp
      dsimp only
      rw [h41.pos, h41.err, hpos7, herr7]
      omega
  · refine ⟨_, h41.c4, fun hh => (he (by simpa using hh)).elim, fun _ => ⟨⟨hf41, sl', p', out', er', h41, .inr ⟨he, hre⟩⟩, ?_⟩⟩
    dsimp only
    rw [h41.pos, h41.err, hpos7, herr7, show 1 - er' = 0 by omega]
    omega
end Go.Proofs.Ytofejgaanpaieaa
