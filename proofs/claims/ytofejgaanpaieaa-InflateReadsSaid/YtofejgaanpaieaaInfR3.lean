/- The reference's stored block. Conditions: the stream is in order. -/
import Derived.Test.YtofejgaanpaieaaInfR2
set_option linter.unusedVariables false
namespace Go.Proofs.Ytofejgaanpaieaa
open Go Vc BitsM HuffM Go.Proofs

theorem take_ok {B : List Bool} {n p v p' : Nat} (h : InfM.take B n p = .ok (v, p')) : p + n ≤ B.length ∧ v = num ((B.drop p).take n) ∧ p' = p + n ∧ v < 2 ^ n := by
  unfold InfM.take at h
  split at h
  · cases h
    refine ⟨by assumption, rfl, rfl, ?_⟩
    have := num_lt ((B.drop p).take n)
    have h1 : ((B.drop p).take n).length ≤ n := List.length_take_le ..
    exact Nat.lt_of_lt_of_le this (Nat.pow_le_pow_right (by decide) h1)
  · cases h
theorem take_err {B : List Bool} {n p e : Nat} (h : InfM.take B n p = .error e) : B.length < p + n ∧ e = 6 := by
  unfold InfM.take at h
  split at h
  · cases h
  · cases h; exact ⟨by omega, rfl⟩
/-- What a reading of a block leaves: all else is as it was. -/
def SOut (w w' : World) (base b : Nat) (bl0 sl : Sl) (B : List Bool) (most : Nat) (r : InfM.E (List UInt8)) : Prop :=
  Fr (fun k => k = b ∨ At sl k) w w' ∧ ∃ sl' p out, Since w sl sl' ∧ ((r = .ok (out, p) ∧ RS w' base b bl0 sl' B p out most 0) ∨ (∃ er, er ≠ 0 ∧ r = .error er ∧ RS w' base b bl0 sl' B p out most er))
theorem outs {w w1 w2 : World} {b : Nat} {sl sl1 : Sl} (h : Fr (fun k => k = b ∨ At sl k) w w1) (hs : Since w sl sl1) (h2 : Fr (fun k => k = b ∨ At sl1 k) w1 w2) : Fr (fun k => k = b ∨ At sl k) w w2 :=
  h.trans h2 fun k hk hY => hY.imp id fun ⟨y, hy, e⟩ => by
    rcases hs y hy with ⟨x, hx, hb⟩ | hn
    · exact ⟨x, hx, by omega⟩
    · omega
theorem bytesAt_succ (B : List Bool) (k p : Nat) : InfM.bytesAt B (k + 1) p = InfM.bytesAt B k p ++ [UInt8.ofNat (num ((B.drop (p + 8 * k)).take 8))] := by
  unfold InfM.bytesAt
  rw [List.range_succ, List.map_append]; rfl
theorem bytesAt_length (B : List Bool) (k p : Nat) : (InfM.bytesAt B k p).length = k := by simp [InfM.bytesAt]
/-- 'stored'. -/
theorem sstored_spec {w : World} {base b : Nat} {bl0 sl : Sl} {B : List Bool} {p : Nat} {out : List UInt8} {most : Nat} (h : RS w base b bl0 sl B p out most 0) (hm : most ≤ 65536) (hout : out.length ≤ most) (h8 : B.length % 8 = 0) :
    Calls Try.prog F_cartularyref05_Stream_stored #[.pointer (some ⟨b, 0, none⟩)] w fun e w' => e = .returned (.tuple #[]) ∧ SOut w w' base b bl0 sl B most (InfM.stored most B p out) := by
  refine vc_cartularyref05_Stream_stored_ok (R := fun v w' => v = .tuple #[] ∧ SOut w w' base b bl0 sl B most (InfM.stored most B p out)) ?_ (fun v w' h => ⟨by rw [h.1], h.2⟩)
  have hsm := h.small
  have hp := h.hp
  have hc4 : ∀ {wx : World} {slx : Sl} {px ex : Nat} {ox : List UInt8}, RS wx base b bl0 slx B px ox most ex → wx.cell? ⟨b, 4, none⟩ = some (.int .i64 (ex : Int)) := fun hx => by rw [cell_blk hx.blk]; rfl
  refine ⟨(p : Int), by rw [cell_blk h.blk]; rfl, ?_⟩
  refine (up_spec p (by omega) w).mono ?_
  rintro e w3 ⟨rfl, hw⟩
  replace hw := hw.symm
  subst hw
  unfold InfM.stored
  generalize hq : (p + 7) / 8 * 8 = q
  have hqB : q ≤ B.length := by omega
  dsimp only
  refine ⟨_, rfl, wr_blk h.blk (by simp), fun w5 h5 => ?_⟩
  have hf5 : Fr (· = b) w w5 := h5 ▸ Fr.set (· = b) _ (a := ⟨b, 1, none⟩) (.int .i64 (q : Int)) rfl
  have hs5 : RS w5 base b bl0 sl B q out most 0 := ⟨by rw [h5]; exact set_blk h.blk 1 _, h.own.keep hf5 (fun x hx e => by have := (h.own.blk hx).1; have := h.hb; omega), h.bits.keep hf5 (fun x hx e => (h.hbits x hx).2 e), h.blen, h.bcap, h.small, h.hb, h.hbits, Nat.le_trans h.hbase hf5.size, hqB⟩
  have up : ∀ {w1 : World}, Fr (· = b) w w1 → Fr (fun k => k = b ∨ At sl k) w w1 := fun hf => hf.mono fun _ _ hk => .inl hk
  -- an error told before any byte
  have bad : ∀ {w1 : World} {px er : Nat} {r : InfM.E (List UInt8)}, Fr (· = b) w w1 → RS w1 base b bl0 sl B px out most er → er ≠ 0 → r = .error er → SOut w w1 base b bl0 sl B most r := fun hf hr he hx =>
    ⟨up hf, sl, _, _, .refl _ _, .inr ⟨_, he, hx, hr⟩⟩
  refine (snumber_spec hs5 (n := 16) (by omega)).mono ?_
  rintro e w7 ⟨hf7, ⟨v, p7, ht7, rfl, h7⟩ | ⟨ht7, rfl, h7⟩⟩
  rotate_left 1
  · rw [if_neg (show ¬ q + 32 ≤ B.length by have := (take_err ht7).1; omega)]
    refine ⟨0, rfl, (number_idle h7 (by decide) 16).mono ?_⟩
    rintro e w10 ⟨rfl, hw⟩
    replace hw := hw.symm
    subst hw
    refine ⟨0, rfl, fun w' => w' = w7, ⟨_, hc4 h7, fun hh => (by simp at hh), fun _ => rfl⟩, ?_⟩
    rintro w16 hw
    replace hw := hw.symm
    subst hw
    refine ⟨fun _ w' => w' = w7, fun _ _ => 0, rfl, ?_⟩
    rintro i w20 hw
    replace hw := hw.symm
    subst hw
    have hb := bad (hf5.trans' hf7) h7 (by decide) rfl
    exact ⟨fun _ => ⟨_, hc4 h7, fun hh => (by simp at hh), fun _ => ⟨rfl, hb⟩⟩, fun _ => ⟨rfl, hb⟩⟩
  obtain ⟨hle7, hv7, hp7, hlt7⟩ := take_ok ht7
  refine ⟨(v : Int), rfl, (snumber_spec h7 (n := 16) (by omega)).mono ?_⟩
  rintro e w10 ⟨hf10, ⟨m, p10, ht10, rfl, h10⟩ | ⟨ht10, rfl, h10⟩⟩
  rotate_left 1
  · rw [if_neg (show ¬ q + 32 ≤ B.length by have := (take_err ht10).1; omega)]
    refine ⟨0, rfl, fun w' => w' = w10, ⟨_, hc4 h10, fun hh => (by simp at hh), fun _ => rfl⟩, ?_⟩
    rintro w16 hw
    replace hw := hw.symm
    subst hw
    refine ⟨fun _ w' => w' = w10, fun _ _ => 0, rfl, ?_⟩
    rintro i w20 hw
    replace hw := hw.symm
    subst hw
    have hb := bad ((hf5.trans' hf7).trans' hf10) h10 (by decide) rfl
    exact ⟨fun _ => ⟨_, hc4 h10, fun hh => (by simp at hh), fun _ => ⟨rfl, hb⟩⟩, fun _ => ⟨rfl, hb⟩⟩
  obtain ⟨hle10, hv10, hp10, hlt10⟩ := take_ok ht10
  subst hp7
  subst hp10
  rw [if_pos (show q + 32 ≤ B.length by omega), ← hv7, ← hv10]
  have e1 : IntKind.i64.wrap ((v : Int) + (m : Int)) = ((v + m : Nat) : Int) := by rw [wrap_i64 (by omega) (by omega)]; omega
  have hf10' := (hf5.trans' hf7).trans' hf10
  refine ⟨(m : Int), rfl, ?_⟩
  rw [e1]
  refine ⟨fun w' => Fr (· = b) w w' ∧ ((v + m = 65535 ∧ RS w' base b bl0 sl B (q + 32) out most 0) ∨ (v + m ≠ 65535 ∧ RS w' base b bl0 sl B (q + 32) out most 3)), ⟨_, hc4 h10, fun _ => ⟨fun hne => ?_, fun heq => ?_⟩, fun hh => (by simp at hh)⟩, ?_⟩
  · have hne : v + m ≠ 65535 := fun hz => by rw [hz] at hne; simp at hne
    refine (fail_spec h10 3).mono ?_
    rintro e w15 ⟨rfl, h15, hf15⟩
    exact ⟨rfl, hf10'.trans' hf15, .inr ⟨hne, h15⟩⟩
  · have heq : v + m = 65535 := by have : ((v + m : Nat) : Int) = 65535 := by simpa using heq
                                   omega
    exact ⟨hf10', .inl ⟨heq, h10⟩⟩
  rintro w16 ⟨hf16, ⟨hvm, h16⟩ | ⟨hvm, h16⟩⟩
  rotate_left 1
  · rw [if_pos hvm]
    refine ⟨fun _ w' => w' = w16, fun _ _ => 0, rfl, ?_⟩
    rintro i w20 hw
    replace hw := hw.symm
    subst hw
    have hb := bad hf16 h16 (by decide) rfl
    exact ⟨fun _ => ⟨_, hc4 h16, fun hh => (by simp at hh), fun _ => ⟨rfl, hb⟩⟩, fun _ => ⟨rfl, hb⟩⟩
  rw [if_neg (show ¬ v + m ≠ 65535 by omega)]
  generalize hr : (if q + 32 + 8 * v ≤ B.length then if most < out.length + v then Except.error 2 else .ok (out ++ InfM.bytesAt B v (q + 32), q + 32 + 8 * v)
    else if most < out.length + (B.length - (q + 32)) / 8 then Except.error 2 else .error 6 : InfM.E (List UInt8)) = r
  refine ⟨fun i w' => Fr (fun k => k = b ∨ At sl k) w w' ∧ ∃ sl', Since w sl sl' ∧
      ((∃ k : Nat, i = (k : Int) ∧ k ≤ v ∧ out.length + k ≤ most ∧ RS w' base b bl0 sl' B (q + 32 + 8 * k) (out ++ InfM.bytesAt B k (q + 32)) most 0) ∨ (∃ er px ox, er ≠ 0 ∧ r = .error er ∧ RS w' base b bl0 sl' B px ox most er)),
    fun i _ => ((v : Int) - i).toNat, ⟨up hf16, sl, .refl _ _, .inl ⟨0, rfl, Nat.zero_le _, hout, by simpa [InfM.bytesAt] using h16⟩⟩, ?_⟩
  rintro i w20 ⟨hf20, sl', hsi, ⟨k, rfl, hkv, hkm, h20⟩ | ⟨er, px, ox, he, hre, h20⟩⟩
  rotate_left 1
  · have hb : SOut w w20 base b bl0 sl B most r := ⟨hf20, sl', _, _, hsi, .inr ⟨_, he, hre, h20⟩⟩
    exact ⟨fun _ => ⟨_, hc4 h20, fun hh => (he (by simpa using hh)).elim, fun _ => ⟨rfl, hb⟩⟩, fun _ => ⟨rfl, hb⟩⟩
  have hkB := h20.hp
  refine ⟨fun hlt => ⟨_, hc4 h20, fun _ => ?_, fun hh => (by simp at hh)⟩, fun hge => ?_⟩
  · have hlt := of_decide_eq_true hlt
    have e2 : IntKind.i64.wrap ((k : Int) + 1) = ((k + 1 : Nat) : Int) := by rw [wrap_i64 (by omega) (by omega)]; omega
    refine (snumber_spec h20 (n := 8) (by omega)).mono ?_
    rw [e2]
    rintro e w23 ⟨hf23, ⟨c, p23, ht23, rfl, h23⟩ | ⟨ht23, rfl, h23⟩⟩
    · obtain ⟨hle23, hv23, hp23, hlt23⟩ := take_ok ht23
      refine ⟨_, rfl, ?_⟩
      rw [wrap_u8 (by omega) (by omega)]
      refine (sput h23 hlt23 hm).mono ?_
      rintro e w26 ⟨rfl, hf26, hres⟩
      have hf26' := outs hf20 hsi ((hf23.mono (Y := fun k => k = b ∨ At sl' k) fun _ _ hk => .inl hk).trans' hf26)
      have hlen : (out ++ InfM.bytesAt B k (q + 32)).length = out.length + k := by rw [List.length_append, bytesAt_length]
      rw [hlen] at hres
      rcases hres with ⟨hfull, h26⟩ | ⟨hroom, sl2, h26, hsn⟩
      · refine ⟨rfl, ⟨hf26', sl', hsi, .inr ⟨2, _, _, by decide, ?_, h26⟩⟩, by dsimp only; omega⟩
        rw [← hr]
        by_cases hfit : q + 32 + 8 * v ≤ B.length
        · rw [if_pos hfit, if_pos (by omega)]
        · rw [if_neg hfit, if_pos (by omega)]
      · refine ⟨rfl, ⟨hf26', sl2, hsi.trans hsn (Nat.le_trans hf20.size hf23.size), .inl ⟨k + 1, rfl, by omega, by omega, ?_⟩⟩, by dsimp only; omega⟩
        rw [bytesAt_succ, ← List.append_assoc, ← hv23, show q + 32 + 8 * (k + 1) = p23 by omega]
        exact h26
    · refine ⟨0, rfl, ?_⟩
      rw [wrap_u8 (by omega) (by omega)]
      refine (sput_idle h23 (by decide) 0).mono ?_
      rintro e w26 ⟨rfl, d26⟩
      refine ⟨rfl, ⟨outs hf20 hsi ((hf23.mono (Y := fun k => k = b ∨ At sl' k) fun _ _ hk => .inl hk).trans' (.drew _ d26)), sl', hsi, .inr ⟨6, _, _, by decide, ?_, h23.drew d26⟩⟩, by dsimp only; omega⟩
      rw [← hr]
      have := (take_err ht23).1
      rw [if_neg (by omega), if_neg (by omega)]
  · have hge := of_decide_eq_false hge
    have hk : k = v := by omega
    subst hk
    refine ⟨rfl, hf20, sl', _, _, hsi, .inl ⟨?_, h20⟩⟩
    rw [← hr, if_pos (by omega), if_neg (by omega)]
end Go.Proofs.Ytofejgaanpaieaa
