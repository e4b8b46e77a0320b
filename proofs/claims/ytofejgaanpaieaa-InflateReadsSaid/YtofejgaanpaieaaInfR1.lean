/- The reference's stream: an error told. Conditions: the stream is in order. -/
import Derived.Test.YtofejgaanpaieaaInfI
import Derived.Test.YtofejgaanpaieaaHuffG
import Derived.Test.YtofejgaanpaieaaRef5
set_option linter.unusedVariables false
namespace Go.Proofs.Ytofejgaanpaieaa
open Go Vc BitsM HuffM Go.Proofs

/-- A stream of the reference's in order: bits, place, what came out, limit, error. -/
structure RS (w : World) (base b : Nat) (bl0 sl : Sl) (B : List Bool) (p : Nat) (out : List UInt8) (most err : Nat) : Prop where
  blk : w.heap[b]? = some (.cells #[.slice bl0.a bl0.len bl0.cap, .int .i64 (p : Int), .slice sl.a sl.len sl.cap, .int .i64 (most : Int), .int .i64 (err : Int)] T_cartularyref05_Stream (0, 0))
  own : Own w base T_uint8 sl (byteV out)
  bits : Reads w bl0.a (bl B)
  blen : B.length = bl0.len
  bcap : bl0.len ≤ bl0.cap
  small : B.length ≤ 1099511627776
  hb : b < base
  hbits : ∀ x, bl0.a = some x → x.block < base ∧ x.block ≠ b
  hbase : base ≤ w.heap.size
  hp : p ≤ B.length
theorem fail_spec {w : World} {base b : Nat} {bl0 sl : Sl} {B : List Bool} {p : Nat} {out : List UInt8} {most : Nat} (h : RS w base b bl0 sl B p out most 0) (er : Nat) :
    Calls Try.prog F_cartularyref05_Stream_fail #[.pointer (some ⟨b, 0, none⟩), .int .i64 (er : Int)] w fun e w' => e = .returned (.tuple #[]) ∧ RS w' base b bl0 sl B p out most er ∧ Fr (· = b) w w' := by
  refine vc_cartularyref05_Stream_fail_ok (R := fun v w' => v = .tuple #[] ∧ RS w' base b bl0 sl B p out most er ∧ Fr (· = b) w w') ?_ (fun v w' h => ⟨by rw [h.1], h.2⟩)
  refine ⟨((0 : Nat) : Int), by rw [cell_blk h.blk]; rfl, fun _ => ⟨wr_blk h.blk (by simp), fun w2 h2 => ?_⟩, fun hh => by simp at hh⟩
  have hf : Fr (· = b) w w2 := h2 ▸ Fr.set (· = b) _ (a := ⟨b, 4, none⟩) (.int .i64 (er : Int)) rfl
  refine ⟨rfl, ⟨?_, h.own.keep hf (fun x hx e => by have := (h.own.blk hx).1; have := h.hb; omega), h.bits.keep hf (fun x hx e => (h.hbits x hx).2 e), h.blen, h.bcap, h.small, h.hb, h.hbits, Nat.le_trans h.hbase hf.size, h.hp⟩, hf⟩
  rw [h2]
  exact set_blk h.blk 4 _
theorem RS.keep {w w2 : World} {base b : Nat} {bl0 sl : Sl} {B : List Bool} {p : Nat} {out : List UInt8} {most er : Nat} (h : RS w base b bl0 sl B p out most er) {X : Nat → Prop} (hf : Fr X w w2) (h1 : ¬ X b) (h2 : ∀ x, bl0.a = some x → ¬ X x.block) (h3 : ∀ y, sl.a = some y → ¬ X y.block) : RS w2 base b bl0 sl B p out most er :=
  ⟨hf.keep h.blk h1, h.own.keep hf h3, h.bits.keep hf h2, h.blen, h.bcap, h.small, h.hb, h.hbits, Nat.le_trans h.hbase hf.size, h.hp⟩
theorem RS.drew {w w2 : World} {base b : Nat} {bl0 sl : Sl} {B : List Bool} {p : Nat} {out : List UInt8} {most er : Nat} (h : RS w base b bl0 sl B p out most er) (d : Drew w w2) : RS w2 base b bl0 sl B p out most er := h.keep (.drew (fun _ => False) d) (by simp) (by simp) (by simp)
theorem snumber_spec {w : World} {base b : Nat} {bl0 sl : Sl} {B : List Bool} {p : Nat} {out : List UInt8} {most : Nat} (h : RS w base b bl0 sl B p out most 0) {n : Nat} (hn : n ≤ 16) :
    Calls Try.prog F_cartularyref05_Stream_number #[.pointer (some ⟨b, 0, none⟩), .int .i64 (n : Int)] w fun e w' => Fr (· = b) w w' ∧
      ((∃ v p', InfM.take B n p = .ok (v, p') ∧ e = .returned (.int .i64 (v : Int)) ∧ RS w' base b bl0 sl B p' out most 0) ∨ (InfM.take B n p = .error 6 ∧ e = .returned (.int .i64 0) ∧ RS w' base b bl0 sl B p out most 6)) := by
  refine vc_cartularyref05_Stream_number_ok (R := fun r w' => Fr (· = b) w w' ∧
      ((∃ v p', InfM.take B n p = .ok (v, p') ∧ r = .int .i64 (v : Int) ∧ RS w' base b bl0 sl B p' out most 0) ∨ (InfM.take B n p = .error 6 ∧ r = .int .i64 0 ∧ RS w' base b bl0 sl B p out most 6))) ?_
    (fun v w' h => ⟨h.1, h.2.imp (fun ⟨v, p', h⟩ => ⟨v, p', h.1, by rw [h.2.1], h.2.2⟩) (fun h => ⟨h.1, by rw [h.2.1], h.2.2⟩)⟩)
  have hsm := h.small
  have hp := h.hp
  have hbl := h.blen
  have e1 : IntKind.i64.wrap ((p : Int) + (n : Int)) = ((p + n : Nat) : Int) := by rw [wrap_i64 (by omega) (by omega)]; omega
  refine ⟨((0 : Nat) : Int), by rw [cell_blk h.blk]; rfl, fun hh => (by simp at hh), fun _ => ⟨(p : Int), by rw [cell_blk h.blk]; rfl, bl0, by rw [cell_blk h.blk]; rfl, fun w4 d4 => ?_⟩⟩
  rw [e1]
  have h4 := h.drew d4
  refine ⟨fun hgt => ?_, fun hle w7 d7 => ?_⟩
  · have hgt := of_decide_eq_true hgt
    refine (fail_spec h4 6).mono ?_
    rintro e w6 ⟨rfl, h6, hf6⟩
    exact ⟨rfl, (Fr.drew _ d4).trans' hf6, .inr ⟨by unfold InfM.take; rw [if_neg (by omega)], rfl, h6⟩⟩
  · have hle := of_decide_eq_false hle
    have h7 := h4.drew d7
    refine ⟨fun w' => w'.heap[b]? = w7.heap[b]?, rfl, bl0, fun w' hw => (by rw [cell_blk (hw.trans h7.blk)]; rfl), (p : Int), fun w' hw => (by rw [cell_blk (hw.trans h7.blk)]; rfl), (p : Int), fun w' hw => (by rw [cell_blk (hw.trans h7.blk)]; rfl), ?_⟩
    rw [e1]
    have hcap := h.bcap
    refine ⟨⟨by omega, by omega, by omega⟩, ?_⟩
    rw [Int.toNat_natCast, Int.toNat_natCast, show p + n - p = n by omega]
    have hr : Reads w7 (subA bl0.a bl0.cap p 1) (bl ((B.drop p).take n)) := by
      have := ((h7.bits).sub (cap := bl0.cap) (by rw [List.length_map]; omega) p).take n
      simpa [bl, List.map_take, List.map_drop] using this
    have hlen : ((B.drop p).take n).length = n := by rw [List.length_take, List.length_drop]; omega
    refine (number_spec hr hlen (by omega)).mono ?_
    rintro e w16 ⟨rfl, hw⟩
    replace hw := hw.symm
    subst hw
    have hnum := num_lt ((B.drop p).take n)
    rw [hlen] at hnum
    have h16 : 2 ^ n ≤ 2 ^ 16 := Nat.pow_le_pow_right (by decide) hn
    refine ⟨_, rfl, rfl, (p : Int), by rw [cell_blk h7.blk]; rfl, wr_blk h7.blk (by simp), fun w19 h19 => ?_⟩
    rw [e1] at h19
    have hf : Fr (· = b) w7 w19 := h19 ▸ Fr.set (· = b) _ (a := ⟨b, 1, none⟩) (.int .i64 ((p + n : Nat) : Int)) rfl
    refine ⟨((Fr.drew _ d4).trans' (.drew _ d7)).trans' hf, .inl ⟨num ((B.drop p).take n), p + n, by unfold InfM.take; rw [if_pos (by omega)], ?_, ⟨?_, h7.own.keep hf (fun x hx e => by have := (h7.own.blk hx).1; have := h7.hb; omega), h7.bits.keep hf (fun x hx e => (h7.hbits x hx).2 e), h.blen, h.bcap, h.small, h.hb, h.hbits, Nat.le_trans h7.hbase hf.size, by omega⟩⟩⟩
    · rw [Nat.mod_eq_of_lt (by omega), wrap_i64 (by omega) (by omega)]
    · rw [h19]; exact set_blk h7.blk 1 _
theorem sput_spec {w : World} {base b : Nat} {bl0 sl : Sl} {B : List Bool} {p : Nat} {out : List UInt8} {most c : Nat} (h : RS w base b bl0 sl B p out most 0) (hc : c < 256) (hm : most ≤ 65536) (hs : ∀ x, bl0.a = some x → ∀ y, sl.a = some y → x.block ≠ y.block) :
    Calls Try.prog F_cartularyref05_Stream_put #[.pointer (some ⟨b, 0, none⟩), .int .u8 (c : Int)] w fun e w' => e = .returned (.tuple #[]) ∧ Fr (fun k => k = b ∨ At sl k) w w' ∧
      ((most ≤ out.length ∧ RS w' base b bl0 sl B p out most 2) ∨ (out.length < most ∧ ∃ sl', RS w' base b bl0 sl' B p (out ++ [UInt8.ofNat c]) most 0 ∧ Since w sl sl')) := by
  refine vc_cartularyref05_Stream_put_ok (R := fun v w' => v = .tuple #[] ∧ Fr (fun k => k = b ∨ At sl k) w w' ∧
      ((most ≤ out.length ∧ RS w' base b bl0 sl B p out most 2) ∨ (out.length < most ∧ ∃ sl', RS w' base b bl0 sl' B p (out ++ [UInt8.ofNat c]) most 0 ∧ Since w sl sl'))) ?_ (fun v w' h => ⟨by rw [h.1], h.2⟩)
  have hl : sl.len = out.length := by rw [h.own.len, List.length_map]
  refine ⟨fun w9 => Fr (· = b) w w9 ∧ ((most ≤ out.length ∧ RS w9 base b bl0 sl B p out most 2) ∨ (out.length < most ∧ RS w9 base b bl0 sl B p out most 0)), ⟨((0 : Nat) : Int), by rw [cell_blk h.blk]; rfl, fun _ => ⟨sl, by rw [cell_blk h.blk]; rfl, (most : Int), by rw [cell_blk h.blk]; rfl, fun w5 d5 => ⟨fun hge => ?_, fun hlt => ?_⟩⟩, fun hh => (by simp at hh)⟩, ?_⟩
  · have hge := of_decide_eq_true hge
    refine (fail_spec (h.drew d5) 2).mono ?_
    rintro e w7 ⟨rfl, h7, hf7⟩
    exact ⟨rfl, (Fr.drew _ d5).trans' hf7, .inl ⟨by omega, h7⟩⟩
  · have hlt := of_decide_eq_false hlt
    exact ⟨.drew _ d5, .inr ⟨by omega, h.drew d5⟩⟩
  · rintro w9 ⟨hf9, ⟨hge, h9⟩ | ⟨hlt, h9⟩⟩
    · exact ⟨((2 : Nat) : Int), by rw [cell_blk h9.blk]; rfl, fun hh => (by simp at hh), fun _ => ⟨rfl, hf9.mono fun k _ hk => .inl hk, .inl ⟨hge, h9⟩⟩⟩
    · refine ⟨((0 : Nat) : Int), by rw [cell_blk h9.blk]; rfl, fun _ => ⟨sl, by rw [cell_blk h9.blk]; rfl, fun w12 h12 => ?_⟩, fun hh => (by simp at hh)⟩
      have hbl : (byteV out).length = out.length := List.length_map _
      obtain ⟨w13, l14, hr, ho, hf, hsn⟩ := append_one' elByte h9.own (v := .int .u8 (c : Int)) rfl (by rw [hbl]; unfold maxLen; omega) (by rw [hbl]; omega) h9.hbase h12
      rw [byteV_snoc out c hc] at ho
      have hnb : ¬ At sl b := fun ⟨y, hy, e⟩ => by have := (h9.own.blk hy).1; have := h9.hb; omega
      have hb13 := hf.keep h9.blk hnb
      refine ⟨w13, l14, hr, wr_blk hb13 (by simp), fun w15 h15 => ?_⟩
      have hf15 : Fr (· = b) w13 w15 := h15 ▸ Fr.set (· = b) _ (a := ⟨b, 2, none⟩) (.slice l14.a l14.len l14.cap) rfl
      refine ⟨rfl, ((hf9.mono (Y := fun k => k = b ∨ At sl k) fun k _ hk => .inl hk).trans' (hf.mono fun k _ hk => .inr hk)).trans' (hf15.mono fun k _ hk => .inl hk), .inr ⟨hlt, l14, ⟨by rw [h15]; exact set_blk hb13 2 _, ho.keep hf15 (fun x hx e => by have := (ho.blk hx).1; have := h9.hb; omega), (h9.bits.keep hf (fun x hx ⟨y, hy, e⟩ => hs x hx y hy e)).keep hf15 (fun x hx e => (h9.hbits x hx).2 e), h.blen, h.bcap, h.small, h.hb, h.hbits, Nat.le_trans h9.hbase (Nat.le_trans hf.size hf15.size), h.hp⟩, fun y hy => ?_⟩⟩
      rcases hsn y hy with hz | hn
      · exact .inl hz
      · exact .inr (Nat.le_trans hf9.size hn)
end Go.Proofs.Ytofejgaanpaieaa
