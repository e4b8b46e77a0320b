/- The reference of the inflater answers as the model does. Conditions: the stream is in order; the text is no longer than a slice may be. -/
import Derived.Test.YtofejgaanpaieaaInfX
import Derived.Test.YtofejgaanpaieaaHuffG
import Derived.Test.YtofejgaanpaieaaRef5
import Derived.Test.YtofejgaanpaieaaInfQ
import Derived.Test.YtofejgaanpaieaaInfN
set_option linter.unusedVariables false
namespace Go.Proofs.Ytofejgaanpaieaa
open Go Vc BitsM HuffM Go.Proofs

/-- A stream of the reference's in order: bits, place, what came out, limit, error. -/
structure RS (w : World) (base b : Nat) (bl0 sl : Sl) (B : List Bool) (p : Nat) (out : List UInt8) (most err : Nat) : Prop where
  blk : w.heap[b]? = some (.cells #[.slice bl0.a bl0.len bl0.cap, .int .i64 (p : Int), .slice sl.a sl.len sl.cap, .int .i64 (most : Int), .int .i64 (err : Int)] T_cartularyref05_Stream (0, 0))
  own : Own w base T_uint8 sl (byteV out)
  bits : Reads w bl0.a (bl B)
  blen : B.length = bl0.len
  bcap : bl0.len ≤ bl0.cap
  small : B.length ≤ 1099511627776
  hb : b < base
  hbits : ∀ x, bl0.a = some x → x.block < base ∧ x.block ≠ b
  hbase : base ≤ w.heap.size
  hp : p ≤ B.length
theorem fail_spec {w : World} {base b : Nat} {bl0 sl : Sl} {B : List Bool} {p : Nat} {out : List UInt8} {most : Nat} (h : RS w base b bl0 sl B p out most 0) (er : Nat) :
    Calls Try.prog F_cartularyref05_Stream_fail #[.pointer (some ⟨b, 0, none⟩), .int .i64 (er : Int)] w fun e w' => e = .returned (.tuple #[]) ∧ RS w' base b bl0 sl B p out most er ∧ Fr (· = b) w w' := by
  refine vc_cartularyref05_Stream_fail_ok (R := fun v w' => v = .tuple #[] ∧ RS w' base b bl0 sl B p out most er ∧ Fr (· = b) w w') ?_ (fun v w' h => ⟨by rw [h.1], h.2⟩)
  refine ⟨((0 : Nat) : Int), by rw [cell_blk h.blk]; rfl, fun _ => ⟨wr_blk h.blk (by simp), fun w2 h2 => ?_⟩, fun hh => by simp at hh⟩
  have hf : Fr (· = b) w w2 := h2 ▸ Fr.set (· = b) _ (a := ⟨b, 4, none⟩) (.int .i64 (er : Int)) rfl
  refine ⟨rfl, ⟨?_, h.own.keep hf (fun x hx e => by have := (h.own.blk hx).1; have := h.hb; omega), h.bits.keep hf (fun x hx e => (h.hbits x hx).2 e), h.blen, h.bcap, h.small, h.hb, h.hbits, Nat.le_trans h.hbase hf.size, h.hp⟩, hf⟩
  rw [h2]
  exact set_blk h.blk 4 _
theorem RS.keep {w w2 : World} {base b : Nat} {bl0 sl : Sl} {B : List Bool} {p : Nat} {out : List UInt8} {most er : Nat} (h : RS w base b bl0 sl B p out most er) {X : Nat → Prop} (hf : Fr X w w2) (h1 : ¬ X b) (h2 : ∀ x, bl0.a = some x → ¬ X x.block) (h3 : ∀ y, sl.a = some y → ¬ X y.block) : RS w2 base b bl0 sl B p out most er :=
  ⟨hf.keep h.blk h1, h.own.keep hf h3, h.bits.keep hf h2, h.blen, h.bcap, h.small, h.hb, h.hbits, Nat.le_trans h.hbase hf.size, h.hp⟩
theorem RS.drew {w w2 : World} {base b : Nat} {bl0 sl : Sl} {B : List Bool} {p : Nat} {out : List UInt8} {most er : Nat} (h : RS w base b bl0 sl B p out most er) (d : Drew w w2) : RS w2 base b bl0 sl B p out most er := h.keep (.drew (fun _ => False) d) (by simp) (by simp) (by simp)
theorem snumber_spec {w : World} {base b : Nat} {bl0 sl : Sl} {B : List Bool} {p : Nat} {out : List UInt8} {most : Nat} (h : RS w base b bl0 sl B p out most 0) {n : Nat} (hn : n ≤ 16) :
    Calls Try.prog F_cartularyref05_Stream_number #[.pointer (some ⟨b, 0, none⟩), .int .i64 (n : Int)] w fun e w' => Fr (· = b) w w' ∧
      ((∃ v p', InfM.take B n p = .ok (v, p') ∧ e = .returned (.int .i64 (v : Int)) ∧ RS w' base b bl0 sl B p' out most 0) ∨ (InfM.take B n p = .error 6 ∧ e = .returned (.int .i64 0) ∧ RS w' base b bl0 sl B p out most 6)) := by
  refine vc_cartularyref05_Stream_number_ok (R := fun r w' => Fr (· = b) w w' ∧
      ((∃ v p', InfM.take B n p = .ok (v, p') ∧ r = .int .i64 (v : Int) ∧ RS w' base b bl0 sl B p' out most 0) ∨ (InfM.take B n p = .error 6 ∧ r = .int .i64 0 ∧ RS w' base b bl0 sl B p out most 6))) ?_
    (fun v w' h => ⟨h.1, h.2.imp (fun ⟨v, p', h⟩ => ⟨v, p', h.1, by rw [h.2.1], h.2.2⟩) (fun h => ⟨h.1, by rw [h.2.1], h.2.2⟩)⟩)
  have hsm := h.small
  have hp := h.hp
  have hbl := h.blen
  have e1 : IntKind.i64.wrap ((p : Int) + (n : Int)) = ((p + n : Nat) : Int) := by rw [wrap_i64 (by omega) (by omega)]; omega
  refine ⟨((0 : Nat) : Int), by rw [cell_blk h.blk]; rfl, fun hh => (by simp at hh), fun _ => ⟨(p : Int), by rw [cell_blk h.blk]; rfl, bl0, by rw [cell_blk h.blk]; rfl, fun w4 d4 => ?_⟩⟩
  rw [e1]
  have h4 := h.drew d4
  refine ⟨fun hgt => ?_, fun hle w7 d7 => ?_⟩
  · have hgt := of_decide_eq_true hgt
    refine (fail_spec h4 6).mono ?_
    rintro e w6 ⟨rfl, h6, hf6⟩
    exact ⟨rfl, (Fr.drew _ d4).trans' hf6, .inr ⟨by unfold InfM.take; rw [if_neg (by omega)], rfl, h6⟩⟩
  · have hle := of_decide_eq_false hle
    have h7 := h4.drew d7
    refine ⟨fun w' => w'.heap[b]? = w7.heap[b]?, rfl, bl0, fun w' hw => (by rw [cell_blk (hw.trans h7.blk)]; rfl), (p : Int), fun w' hw => (by rw [cell_blk (hw.trans h7.blk)]; rfl), (p : Int), fun w' hw => (by rw [cell_blk (hw.trans h7.blk)]; rfl), ?_⟩
    rw [e1]
    have hcap := h.bcap
    refine ⟨⟨by omega, by omega, by omega⟩, ?_⟩
    rw [Int.toNat_natCast, Int.toNat_natCast, show p + n - p = n by omega]
    have hr : Reads w7 (subA bl0.a bl0.cap p 1) (bl ((B.drop p).take n)) := by
      have := ((h7.bits).sub (cap := bl0.cap) (by rw [List.length_map]; omega) p).take n
      simpa [bl, List.map_take, List.map_drop] using this
    have hlen : ((B.drop p).take n).length = n := by rw [List.length_take, List.length_drop]; omega
    refine (number_spec hr hlen (by omega)).mono ?_
    rintro e w16 ⟨rfl, hw⟩
    replace hw := hw.symm
    subst hw
    have hnum := num_lt ((B.drop p).take n)
    rw [hlen] at hnum
    have h16 : 2 ^ n ≤ 2 ^ 16 := Nat.pow_le_pow_right (by decide) hn
    refine ⟨_, rfl, rfl, (p : Int), by rw [cell_blk h7.blk]; rfl, wr_blk h7.blk (by simp), fun w19 h19 => ?_⟩
    rw [e1] at h19
    have hf : Fr (· = b) w7 w19 := h19 ▸ Fr.set (· = b) _ (a := ⟨b, 1, none⟩) (.int .i64 ((p + n : Nat) : Int)) rfl
    refine ⟨((Fr.drew _ d4).trans' (.drew _ d7)).trans' hf, .inl ⟨num ((B.drop p).take n), p + n, by unfold InfM.take; rw [if_pos (by omega)], ?_, ⟨?_, h7.own.keep hf (fun x hx e => by have := (h7.own.blk hx).1; have := h7.hb; omega), h7.bits.keep hf (fun x hx e => (h7.hbits x hx).2 e), h.blen, h.bcap, h.small, h.hb, h.hbits, Nat.le_trans h7.hbase hf.size, by omega⟩⟩⟩
    · rw [Nat.mod_eq_of_lt (by omega), wrap_i64 (by omega) (by omega)]
    · rw [h19]; exact set_blk h7.blk 1 _
theorem sput_spec {w : World} {base b : Nat} {bl0 sl : Sl} {B : List Bool} {p : Nat} {out : List UInt8} {most c : Nat} (h : RS w base b bl0 sl B p out most 0) (hc : c < 256) (hm : most ≤ 65536) (hs : ∀ x, bl0.a = some x → ∀ y, sl.a = some y → x.block ≠ y.block) :
    Calls Try.prog F_cartularyref05_Stream_put #[.pointer (some ⟨b, 0, none⟩), .int .u8 (c : Int)] w fun e w' => e = .returned (.tuple #[]) ∧ Fr (fun k => k = b ∨ At sl k) w w' ∧
      ((most ≤ out.length ∧ RS w' base b bl0 sl B p out most 2) ∨ (out.length < most ∧ ∃ sl', RS w' base b bl0 sl' B p (out ++ [UInt8.ofNat c]) most 0 ∧ Since w sl sl')) := by
  refine vc_cartularyref05_Stream_put_ok (R := fun v w' => v = .tuple #[] ∧ Fr (fun k => k = b ∨ At sl k) w w' ∧
      ((most ≤ out.length ∧ RS w' base b bl0 sl B p out most 2) ∨ (out.length < most ∧ ∃ sl', RS w' base b bl0 sl' B p (out ++ [UInt8.ofNat c]) most 0 ∧ Since w sl sl'))) ?_ (fun v w' h => ⟨by rw [h.1], h.2⟩)
  have hl : sl.len = out.length := by rw [h.own.len, List.length_map]
  refine ⟨fun w9 => Fr (· = b) w w9 ∧ ((most ≤ out.length ∧ RS w9 base b bl0 sl B p out most 2) ∨ (out.length < most ∧ RS w9 base b bl0 sl B p out most 0)), ⟨((0 : Nat) : Int), by rw [cell_blk h.blk]; rfl, fun _ => ⟨sl, by rw [cell_blk h.blk]; rfl, (most : Int), by rw [cell_blk h.blk]; rfl, fun w5 d5 => ⟨fun hge => ?_, fun hlt => ?_⟩⟩, fun hh => (by simp at hh)⟩, ?_⟩
  · have hge := of_decide_eq_true hge
    refine (fail_spec (h.drew d5) 2).mono ?_
    rintro e w7 ⟨rfl, h7, hf7⟩
    exact ⟨rfl, (Fr.drew _ d5).trans' hf7, .inl ⟨by omega, h7⟩⟩
  · have hlt := of_decide_eq_false hlt
    exact ⟨.drew _ d5, .inr ⟨by omega, h.drew d5⟩⟩
  · rintro w9 ⟨hf9, ⟨hge, h9⟩ | ⟨hlt, h9⟩⟩
    · exact ⟨((2 : Nat) : Int), by rw [cell_blk h9.blk]; rfl, fun hh => (by simp at hh), fun _ => ⟨rfl, hf9.mono fun k _ hk => .inl hk, .inl ⟨hge, h9⟩⟩⟩
    · refine ⟨((0 : Nat) : Int), by rw [cell_blk h9.blk]; rfl, fun _ => ⟨sl, by rw [cell_blk h9.blk]; rfl, fun w12 h12 => ?_⟩, fun hh => (by simp at hh)⟩
      have hbl : (byteV out).length = out.length := List.length_map _
      obtain ⟨w13, l14, hr, ho, hf, hsn⟩ := append_one' elByte h9.own (v := .int .u8 (c : Int)) rfl (by rw [hbl]; unfold maxLen; omega) (by rw [hbl]; omega) h9.hbase h12
      rw [byteV_snoc out c hc] at ho
      have hnb : ¬ At sl b := fun ⟨y, hy, e⟩ => by have := (h9.own.blk hy).1; have := h9.hb; omega
      have hb13 := hf.keep h9.blk hnb
      refine ⟨w13, l14, hr, wr_blk hb13 (by simp), fun w15 h15 => ?_⟩
      have hf15 : Fr (· = b) w13 w15 := h15 ▸ Fr.set (· = b) _ (a := ⟨b, 2, none⟩) (.slice l14.a l14.len l14.cap) rfl
      refine ⟨rfl, ((hf9.mono (Y := fun k => k = b ∨ At sl k) fun k _ hk => .inl hk).trans' (hf.mono fun k _ hk => .inr hk)).trans' (hf15.mono fun k _ hk => .inl hk), .inr ⟨hlt, l14, ⟨by rw [h15]; exact set_blk hb13 2 _, ho.keep hf15 (fun x hx e => by have := (ho.blk hx).1; have := h9.hb; omega), (h9.bits.keep hf (fun x hx ⟨y, hy, e⟩ => hs x hx y hy e)).keep hf15 (fun x hx e => (h9.hbits x hx).2 e), h.blen, h.bcap, h.small, h.hb, h.hbits, Nat.le_trans h9.hbase (Nat.le_trans hf.size hf15.size), h.hp⟩, fun y hy => ?_⟩⟩
      rcases hsn y hy with hz | hn
      · exact .inl hz
      · exact .inr (Nat.le_trans hf9.size hn)
end Go.Proofs.Ytofejgaanpaieaa
namespace Go.Proofs.Ytofejgaanpaieaa
open Go Vc BitsM HuffM Go.Proofs

theorem longer_win {ls : List Nat} (hf : Fits ls) (b : List Bool) : InfM.Longer ls (b.take 16) ↔ InfM.Longer ls b := by
  have h15 : ∀ {s : Nat}, s < ls.length → (cbits ls s).length ≤ 15 := fun {s} hs => by
    rw [cbits_length, List.getD_eq_getElem?_getD, List.getElem?_eq_getElem hs]
    exact hf.mem (List.getElem?_eq_getElem hs)
  constructor
  · rintro ⟨s, h1, h2, h3⟩
    have := h15 h1
    have hlen : (b.take 16).length = min 16 b.length := List.length_take
    have he : b.take 16 = b := List.take_of_length_le (by omega)
    rw [he] at h2 h3
    exact ⟨s, h1, h2, h3⟩
  · rintro ⟨s, h1, h2, h3⟩
    have := h15 h1
    have he : b.take 16 = b := List.take_of_length_le (by omega)
    rw [he]
    exact ⟨s, h1, h2, h3⟩
theorem at_win {ls : List Nat} (hf : Fits ls) (b : List Bool) (s n : Nat) : HuffM.At ls (b.take 16) s n ↔ HuffM.At ls b s n := by
  have hlen : (b.take 16).length = min 16 b.length := List.length_take
  constructor
  · rintro ⟨h1, h2, h3, h4⟩
    have h15 := hf.mem h1
    rw [List.take_take, show min n 16 = n by omega] at h4
    exact ⟨h1, h2, by omega, h4⟩
  · rintro ⟨h1, h2, h3, h4⟩
    have h15 := hf.mem h1
    refine ⟨h1, h2, by omega, ?_⟩
    rw [List.take_take, show min n 16 = n by omega]; exact h4
/-- What the reference's reading of the next sixteen bits comes to. -/
theorem sym_win {ls : List Nat} (hf : Fits ls) {B : List Bool} {p y k err : Nat} (h : RefRes ls ((B.drop p).take 16) y k err) :
    (err = 0 ∧ InfM.sym ls B p = .ok (y, p + k) ∧ 1 ≤ k ∧ k ≤ (B.drop p).length ∧ k ≤ 15 ∧ y < ls.length) ∨ (err ≠ 0 ∧ InfM.sym ls B p = .error err) := by
  rcases h with ⟨h1, h2⟩ | ⟨h1, h2, h3, h4, s, h5, h6⟩ | ⟨h1, h2, h3, h4, h5⟩
  · have h2 := (at_win hf _ _ _).1 h2
    exact .inl ⟨h1, InfM.sym_at h2, h2.2.1, h2.2.2.1, hf.mem h2.1, (List.getElem?_eq_some_iff.1 h2.1).1⟩
  · refine .inr ⟨by omega, ?_⟩
    have hs : s < ls.length := by
      rcases Nat.lt_or_ge s ls.length with hs | hs
      · exact hs
      · rw [cbits_length, List.getD_eq_getElem?_getD, List.getElem?_eq_none hs] at h5
        simp at h5
    have hl : InfM.Longer ls (B.drop p) := (longer_win hf _).1 ⟨s, hs, h5, h6⟩
    unfold InfM.sym
    rw [dif_neg (fun ⟨x, hx⟩ => h4 _ _ ((at_win hf _ _ _).2 hx)), if_pos hl, h1]
  · refine .inr ⟨by omega, ?_⟩
    have hl : ¬ InfM.Longer ls (B.drop p) := fun hh => by
      obtain ⟨s, g1, g2, g3⟩ := (longer_win hf _).2 hh
      exact h5 s g1 g2 g3
    unfold InfM.sym
    rw [dif_neg (fun ⟨x, hx⟩ => h4 _ _ ((at_win hf _ _ _).2 hx)), if_neg hl, h1]

/-- Nothing is done after an error. -/
theorem fail_idle {w : World} {base b : Nat} {bl0 sl : Sl} {B : List Bool} {p : Nat} {out : List UInt8} {most er : Nat} (h : RS w base b bl0 sl B p out most er) (he : er ≠ 0) (x : Int) :
    Calls Try.prog F_cartularyref05_Stream_fail #[.pointer (some ⟨b, 0, none⟩), .int .i64 x] w fun e w' => e = .returned (.tuple #[]) ∧ w' = w := by
  refine vc_cartularyref05_Stream_fail_ok (R := fun v w' => v = .tuple #[] ∧ w' = w) ?_ (fun v w' h => ⟨by rw [h.1], h.2⟩)
  exact ⟨(er : Int), by rw [cell_blk h.blk]; rfl, fun hh => (he (by simpa using hh)).elim, fun _ => ⟨rfl, rfl⟩⟩
theorem number_idle {w : World} {base b : Nat} {bl0 sl : Sl} {B : List Bool} {p : Nat} {out : List UInt8} {most er : Nat} (h : RS w base b bl0 sl B p out most er) (he : er ≠ 0) (x : Int) :
    Calls Try.prog F_cartularyref05_Stream_number #[.pointer (some ⟨b, 0, none⟩), .int .i64 x] w fun e w' => e = .returned (.int .i64 0) ∧ w' = w := by
  refine vc_cartularyref05_Stream_number_ok (R := fun v w' => v = .int .i64 0 ∧ w' = w) ?_ (fun v w' h => ⟨by rw [h.1], h.2⟩)
  exact ⟨(er : Int), by rw [cell_blk h.blk]; rfl, fun _ => ⟨rfl, rfl⟩, fun hh => (he (by simpa using hh)).elim⟩
/-- A symbol. -/
theorem ssym_spec {w : World} {base b : Nat} {bl0 sl : Sl} {B : List Bool} {p : Nat} {out : List UInt8} {most : Nat} (h : RS w base b bl0 sl B p out most 0)
    {lo lo' hi : Nat} {o : Sl} {ls : List Nat} (hb : BitRows w lo lo' hi o ((List.range ls.length).map (cbits ls))) (hf : Fits ls) (hs : ls.length ≤ 400) :
    Calls Try.prog F_cartularyref05_Stream_symbol #[.pointer (some ⟨b, 0, none⟩), slv o] w fun e w' => Fr (· = b) w w' ∧
      ((∃ v p', InfM.sym ls B p = .ok (v, p') ∧ e = .returned (.int .i64 (v : Int)) ∧ v < ls.length ∧ p < p' ∧ RS w' base b bl0 sl B p' out most 0) ∨ (∃ er, er ≠ 0 ∧ InfM.sym ls B p = .error er ∧ e = .returned (.int .i64 0) ∧ RS w' base b bl0 sl B p out most er)) := by
  refine vc_cartularyref05_Stream_symbol_ok (R := fun r w' => Fr (· = b) w w' ∧
      ((∃ v p', InfM.sym ls B p = .ok (v, p') ∧ r = .int .i64 (v : Int) ∧ v < ls.length ∧ p < p' ∧ RS w' base b bl0 sl B p' out most 0) ∨ (∃ er, er ≠ 0 ∧ InfM.sym ls B p = .error er ∧ r = .int .i64 0 ∧ RS w' base b bl0 sl B p out most er))) ?_
    (fun v w' h => ⟨h.1, h.2.imp (fun ⟨v, p', h⟩ => ⟨v, p', h.1, by rw [h.2.1], h.2.2⟩) (fun ⟨er, h⟩ => ⟨er, h.1, h.2.1, by rw [h.2.2.1], h.2.2.2⟩)⟩)
  have hsm := h.small
  have hp := h.hp
  have hbl := h.blen
  have hcap := h.bcap
  refine ⟨((0 : Nat) : Int), by rw [cell_blk h.blk]; rfl, fun hh => (by simp at hh), fun _ w2 d2 => ?_⟩
  have h2 := h.drew d2
  refine ⟨fun w' => w'.heap[b]? = w2.heap[b]?, rfl, bl0, fun w' hw => (by rw [cell_blk (hw.trans h2.blk)]; rfl), (p : Int), fun w' hw => (by rw [cell_blk (hw.trans h2.blk)]; rfl), (p : Int), fun w' hw => (by rw [cell_blk (hw.trans h2.blk)]; rfl), bl0, fun w' hw => (by rw [cell_blk (hw.trans h2.blk)]; rfl), ?_⟩
  have e1 : (if ((bl0.len : Nat) : Int) < IntKind.i64.wrap ((p : Int) + 16) then ((bl0.len : Nat) : Int) else IntKind.i64.wrap ((p : Int) + 16)) = ((min B.length (p + 16) : Nat) : Int) := by
    rw [wrap_i64 (by omega) (by omega)]
    split <;> omega
  rw [e1]
  refine ⟨⟨by omega, by omega, by omega⟩, ?_⟩
  rw [Int.toNat_natCast, Int.toNat_natCast]
  have hr : Reads w2 (subA bl0.a bl0.cap p 1) (bl ((B.drop p).take 16)) := by
    have := ((h2.bits).sub (cap := bl0.cap) (by rw [List.length_map]; omega) p).take 16
    simpa [bl, List.map_take, List.map_drop] using this
  have hlen : ((B.drop p).take 16).length = min B.length (p + 16) - p := by rw [List.length_take, List.length_drop]; omega
  refine (rread_spec (hb.keep (.drew (fun _ => False) d2) (by simp) (by simp)) hf hs hr hlen (by rw [hlen]; omega)).mono ?_
  rintro e w13 ⟨y, k, er, rfl, href, d13⟩
  have h13 := h2.drew d13
  refine ⟨_, _, _, rfl, h13.blk.trans h2.blk.symm, fun hne => ?_, fun heq => ?_⟩
  · have hne : er ≠ 0 := fun hz => by rw [hz] at hne; simp at hne
    rcases sym_win hf href with ⟨h0, _⟩ | ⟨_, hsym⟩
    · exact absurd h0 hne
    refine (fail_spec h13 er).mono ?_
    rintro e w18 ⟨rfl, h18, hf18⟩
    exact ⟨rfl, ((Fr.drew _ d2).trans' (.drew _ d13)).trans' hf18, .inr ⟨er, hne, hsym, rfl, h18⟩⟩
  · have heq : er = 0 := by have : ((er : Nat) : Int) = 0 := by simpa using heq
                            omega
    rcases sym_win hf href with ⟨h0, hsym, hk1, hk, hk15, hy⟩ | ⟨hne, _⟩
    · rw [List.length_drop] at hk
      have e2 : IntKind.i64.wrap ((p : Int) + (k : Int)) = ((p + k : Nat) : Int) := by rw [wrap_i64 (by omega) (by omega)]; omega
      refine ⟨(p : Int), by rw [cell_blk h13.blk]; rfl, wr_blk h13.blk (by simp), fun w20 h20 => ?_⟩
      rw [e2] at h20
      have hf20 : Fr (· = b) w13 w20 := h20 ▸ Fr.set (· = b) _ (a := ⟨b, 1, none⟩) (.int .i64 ((p + k : Nat) : Int)) rfl
      refine ⟨((Fr.drew _ d2).trans' (.drew _ d13)).trans' hf20, .inl ⟨y, p + k, hsym, rfl, hy, by omega, ⟨by rw [h20]; exact set_blk h13.blk 1 _, h13.own.keep hf20 (fun x hx e => by have := (h13.own.blk hx).1; have := h13.hb; omega), h13.bits.keep hf20 (fun x hx e => (h13.hbits x hx).2 e), h.blen, h.bcap, h.small, h.hb, h.hbits, Nat.le_trans h13.hbase hf20.size, by omega⟩⟩⟩
    · exact absurd heq hne
/-- .. after an error. -/
theorem ssym_idle {w : World} {base b : Nat} {bl0 sl : Sl} {B : List Bool} {p : Nat} {out : List UInt8} {most er : Nat} (h : RS w base b bl0 sl B p out most er) (he : er ≠ 0) (o : Sl) :
    Calls Try.prog F_cartularyref05_Stream_symbol #[.pointer (some ⟨b, 0, none⟩), slv o] w fun e w' => e = .returned (.int .i64 0) ∧ w' = w := by
  refine vc_cartularyref05_Stream_symbol_ok (R := fun v w' => v = .int .i64 0 ∧ w' = w) ?_ (fun v w' h => ⟨by rw [h.1], h.2⟩)
  exact ⟨(er : Int), by rw [cell_blk h.blk]; rfl, fun _ => ⟨rfl, rfl⟩, fun hh => (he (by simpa using hh)).elim⟩
theorem sput_idle {w : World} {base b : Nat} {bl0 sl : Sl} {B : List Bool} {p : Nat} {out : List UInt8} {most er : Nat} (h : RS w base b bl0 sl B p out most er) (he : er ≠ 0) (x : Int) :
    Calls Try.prog F_cartularyref05_Stream_put #[.pointer (some ⟨b, 0, none⟩), .int .u8 x] w fun e w' => e = .returned (.tuple #[]) ∧ Drew w w' := by
  refine vc_cartularyref05_Stream_put_ok (R := fun v w' => v = .tuple #[] ∧ Drew w w') ?_ (fun v w' h => ⟨by rw [h.1], h.2⟩)
  exact ⟨fun w9 => Drew w w9, ⟨(er : Int), by rw [cell_blk h.blk]; rfl, fun hh => (he (by simpa using hh)).elim, fun _ w8 d => d⟩, fun w9 d => ⟨(er : Int), by rw [cell_blk (h.drew d).blk]; rfl, fun hh => (he (by simpa using hh)).elim, fun _ => ⟨rfl, d⟩⟩⟩
/-- A byte put, wherever what came out lies. -/
theorem sput {w : World} {base b : Nat} {bl0 sl : Sl} {B : List Bool} {p : Nat} {out : List UInt8} {most c : Nat} (h : RS w base b bl0 sl B p out most 0) (hc : c < 256) (hm : most ≤ 65536) :
    Calls Try.prog F_cartularyref05_Stream_put #[.pointer (some ⟨b, 0, none⟩), .int .u8 (c : Int)] w fun e w' => e = .returned (.tuple #[]) ∧ Fr (fun k => k = b ∨ At sl k) w w' ∧
      ((most ≤ out.length ∧ RS w' base b bl0 sl B p out most 2) ∨ (out.length < most ∧ ∃ sl', RS w' base b bl0 sl' B p (out ++ [UInt8.ofNat c]) most 0 ∧ Since w sl sl')) :=
  sput_spec h hc hm fun x hx y hy e => by have := (h.hbits x hx).1; have := (h.own.blk hy).1; omega
end Go.Proofs.Ytofejgaanpaieaa
namespace Go.Proofs.Ytofejgaanpaieaa
open Go Vc BitsM HuffM Go.Proofs

theorem take_ok {B : List Bool} {n p v p' : Nat} (h : InfM.take B n p = .ok (v, p')) : p + n ≤ B.length ∧ v = num ((B.drop p).take n) ∧ p' = p + n ∧ v < 2 ^ n := by
  unfold InfM.take at h
  split at h
  · cases h
    refine ⟨by assumption, rfl, rfl, ?_⟩
    have := num_lt ((B.drop p).take n)
    have h1 : ((B.drop p).take n).length ≤ n := List.length_take_le ..
    exact Nat.lt_of_lt_of_le this (Nat.pow_le_pow_right (by decide) h1)
  · cases h
theorem take_err {B : List Bool} {n p e : Nat} (h : InfM.take B n p = .error e) : B.length < p + n ∧ e = 6 := by
  unfold InfM.take at h
  split at h
  · cases h
  · cases h; exact ⟨by omega, rfl⟩
/-- What a reading of a block leaves: all else is as it was. -/
def SOut (w w' : World) (base b : Nat) (bl0 sl : Sl) (B : List Bool) (most : Nat) (r : InfM.E (List UInt8)) : Prop :=
  Fr (fun k => k = b ∨ At sl k) w w' ∧ ∃ sl' p out, Since w sl sl' ∧ ((r = .ok (out, p) ∧ RS w' base b bl0 sl' B p out most 0) ∨ (∃ er, er ≠ 0 ∧ r = .error er ∧ RS w' base b bl0 sl' B p out most er))
theorem outs {w w1 w2 : World} {b : Nat} {sl sl1 : Sl} (h : Fr (fun k => k = b ∨ At sl k) w w1) (hs : Since w sl sl1) (h2 : Fr (fun k => k = b ∨ At sl1 k) w1 w2) : Fr (fun k => k = b ∨ At sl k) w w2 :=
  h.trans h2 fun k hk hY => hY.imp id fun ⟨y, hy, e⟩ => by
    rcases hs y hy with ⟨x, hx, hb⟩ | hn
    · exact ⟨x, hx, by omega⟩
    · omega
theorem bytesAt_succ (B : List Bool) (k p : Nat) : InfM.bytesAt B (k + 1) p = InfM.bytesAt B k p ++ [UInt8.ofNat (num ((B.drop (p + 8 * k)).take 8))] := by
  unfold InfM.bytesAt
  rw [List.range_succ, List.map_append]; rfl
theorem bytesAt_length (B : List Bool) (k p : Nat) : (InfM.bytesAt B k p).length = k := by simp [InfM.bytesAt]
/-- 'stored'. -/
theorem sstored_spec {w : World} {base b : Nat} {bl0 sl : Sl} {B : List Bool} {p : Nat} {out : List UInt8} {most : Nat} (h : RS w base b bl0 sl B p out most 0) (hm : most ≤ 65536) (hout : out.length ≤ most) (h8 : B.length % 8 = 0) :
    Calls Try.prog F_cartularyref05_Stream_stored #[.pointer (some ⟨b, 0, none⟩)] w fun e w' => e = .returned (.tuple #[]) ∧ SOut w w' base b bl0 sl B most (InfM.stored most B p out) := by
  refine vc_cartularyref05_Stream_stored_ok (R := fun v w' => v = .tuple #[] ∧ SOut w w' base b bl0 sl B most (InfM.stored most B p out)) ?_ (fun v w' h => ⟨by rw [h.1], h.2⟩)
  have hsm := h.small
  have hp := h.hp
  have hc4 : ∀ {wx : World} {slx : Sl} {px ex : Nat} {ox : List UInt8}, RS wx base b bl0 slx B px ox most ex → wx.cell? ⟨b, 4, none⟩ = some (.int .i64 (ex : Int)) := fun hx => by rw [cell_blk hx.blk]; rfl
  refine ⟨(p : Int), by rw [cell_blk h.blk]; rfl, ?_⟩
  refine (up_spec p (by omega) w).mono ?_
  rintro e w3 ⟨rfl, hw⟩
  replace hw := hw.symm
  subst hw
  unfold InfM.stored
  generalize hq : (p + 7) / 8 * 8 = q
  have hqB : q ≤ B.length := by omega
  dsimp only
  refine ⟨_, rfl, wr_blk h.blk (by simp), fun w5 h5 => ?_⟩
  have hf5 : Fr (· = b) w w5 := h5 ▸ Fr.set (· = b) _ (a := ⟨b, 1, none⟩) (.int .i64 (q : Int)) rfl
  have hs5 : RS w5 base b bl0 sl B q out most 0 := ⟨by rw [h5]; exact set_blk h.blk 1 _, h.own.keep hf5 (fun x hx e => by have := (h.own.blk hx).1; have := h.hb; omega), h.bits.keep hf5 (fun x hx e => (h.hbits x hx).2 e), h.blen, h.bcap, h.small, h.hb, h.hbits, Nat.le_trans h.hbase hf5.size, hqB⟩
  have up : ∀ {w1 : World}, Fr (· = b) w w1 → Fr (fun k => k = b ∨ At sl k) w w1 := fun hf => hf.mono fun _ _ hk => .inl hk
  -- an error told before any byte
  have bad : ∀ {w1 : World} {px er : Nat} {r : InfM.E (List UInt8)}, Fr (· = b) w w1 → RS w1 base b bl0 sl B px out most er → er ≠ 0 → r = .error er → SOut w w1 base b bl0 sl B most r := fun hf hr he hx =>
    ⟨up hf, sl, _, _, .refl _ _, .inr ⟨_, he, hx, hr⟩⟩
  refine (snumber_spec hs5 (n := 16) (by omega)).mono ?_
  rintro e w7 ⟨hf7, ⟨v, p7, ht7, rfl, h7⟩ | ⟨ht7, rfl, h7⟩⟩
  rotate_left 1
  · rw [if_neg (show ¬ q + 32 ≤ B.length by have := (take_err ht7).1; omega)]
    refine ⟨0, rfl, (number_idle h7 (by decide) 16).mono ?_⟩
    rintro e w10 ⟨rfl, hw⟩
    replace hw := hw.symm
    subst hw
    refine ⟨0, rfl, fun w' => w' = w7, ⟨_, hc4 h7, fun hh => (by simp at hh), fun _ => rfl⟩, ?_⟩
    rintro w16 hw
    replace hw := hw.symm
    subst hw
    refine ⟨fun _ w' => w' = w7, fun _ _ => 0, rfl, ?_⟩
    rintro i w20 hw
    replace hw := hw.symm
    subst hw
    have hb := bad (hf5.trans' hf7) h7 (by decide) rfl
    exact ⟨fun _ => ⟨_, hc4 h7, fun hh => (by simp at hh), fun _ => ⟨rfl, hb⟩⟩, fun _ => ⟨rfl, hb⟩⟩
  obtain ⟨hle7, hv7, hp7, hlt7⟩ := take_ok ht7
  refine ⟨(v : Int), rfl, (snumber_spec h7 (n := 16) (by omega)).mono ?_⟩
  rintro e w10 ⟨hf10, ⟨m, p10, ht10, rfl, h10⟩ | ⟨ht10, rfl, h10⟩⟩
  rotate_left 1
  · rw [if_neg (show ¬ q + 32 ≤ B.length by have := (take_err ht10).1; omega)]
    refine ⟨0, rfl, fun w' => w' = w10, ⟨_, hc4 h10, fun hh => (by simp at hh), fun _ => rfl⟩, ?_⟩
    rintro w16 hw
    replace hw := hw.symm
    subst hw
    refine ⟨fun _ w' => w' = w10, fun _ _ => 0, rfl, ?_⟩
    rintro i w20 hw
    replace hw := hw.symm
    subst hw
    have hb := bad ((hf5.trans' hf7).trans' hf10) h10 (by decide) rfl
    exact ⟨fun _ => ⟨_, hc4 h10, fun hh => (by simp at hh), fun _ => ⟨rfl, hb⟩⟩, fun _ => ⟨rfl, hb⟩⟩
  obtain ⟨hle10, hv10, hp10, hlt10⟩ := take_ok ht10
  subst hp7
  subst hp10
  rw [if_pos (show q + 32 ≤ B.length by omega), ← hv7, ← hv10]
  have e1 : IntKind.i64.wrap ((v : Int) + (m : Int)) = ((v + m : Nat) : Int) := by rw [wrap_i64 (by omega) (by omega)]; omega
  have hf10' := (hf5.trans' hf7).trans' hf10
  refine ⟨(m : Int), rfl, ?_⟩
  rw [e1]
  refine ⟨fun w' => Fr (· = b) w w' ∧ ((v + m = 65535 ∧ RS w' base b bl0 sl B (q + 32) out most 0) ∨ (v + m ≠ 65535 ∧ RS w' base b bl0 sl B (q + 32) out most 3)), ⟨_, hc4 h10, fun _ => ⟨fun hne => ?_, fun heq => ?_⟩, fun hh => (by simp at hh)⟩, ?_⟩
  · have hne : v + m ≠ 65535 := fun hz => by rw [hz] at hne; simp at hne
    refine (fail_spec h10 3).mono ?_
    rintro e w15 ⟨rfl, h15, hf15⟩
    exact ⟨rfl, hf10'.trans' hf15, .inr ⟨hne, h15⟩⟩
  · have heq : v + m = 65535 := by have : ((v + m : Nat) : Int) = 65535 := by simpa using heq
                                   omega
    exact ⟨hf10', .inl ⟨heq, h10⟩⟩
  rintro w16 ⟨hf16, ⟨hvm, h16⟩ | ⟨hvm, h16⟩⟩
  rotate_left 1
  · rw [if_pos hvm]
    refine ⟨fun _ w' => w' = w16, fun _ _ => 0, rfl, ?_⟩
    rintro i w20 hw
    replace hw := hw.symm
    subst hw
    have hb := bad hf16 h16 (by decide) rfl
    exact ⟨fun _ => ⟨_, hc4 h16, fun hh => (by simp at hh), fun _ => ⟨rfl, hb⟩⟩, fun _ => ⟨rfl, hb⟩⟩
  rw [if_neg (show ¬ v + m ≠ 65535 by omega)]
  generalize hr : (if q + 32 + 8 * v ≤ B.length then if most < out.length + v then Except.error 2 else .ok (out ++ InfM.bytesAt B v (q + 32), q + 32 + 8 * v)
    else if most < out.length + (B.length - (q + 32)) / 8 then Except.error 2 else .error 6 : InfM.E (List UInt8)) = r
  refine ⟨fun i w' => Fr (fun k => k = b ∨ At sl k) w w' ∧ ∃ sl', Since w sl sl' ∧
      ((∃ k : Nat, i = (k : Int) ∧ k ≤ v ∧ out.length + k ≤ most ∧ RS w' base b bl0 sl' B (q + 32 + 8 * k) (out ++ InfM.bytesAt B k (q + 32)) most 0) ∨ (∃ er px ox, er ≠ 0 ∧ r = .error er ∧ RS w' base b bl0 sl' B px ox most er)),
    fun i _ => ((v : Int) - i).toNat, ⟨up hf16, sl, .refl _ _, .inl ⟨0, rfl, Nat.zero_le _, hout, by simpa [InfM.bytesAt] using h16⟩⟩, ?_⟩
  rintro i w20 ⟨hf20, sl', hsi, ⟨k, rfl, hkv, hkm, h20⟩ | ⟨er, px, ox, he, hre, h20⟩⟩
  rotate_left 1
  · have hb : SOut w w20 base b bl0 sl B most r := ⟨hf20, sl', _, _, hsi, .inr ⟨_, he, hre, h20⟩⟩
    exact ⟨fun _ => ⟨_, hc4 h20, fun hh => (he (by simpa using hh)).elim, fun _ => ⟨rfl, hb⟩⟩, fun _ => ⟨rfl, hb⟩⟩
  have hkB := h20.hp
  refine ⟨fun hlt => ⟨_, hc4 h20, fun _ => ?_, fun hh => (by simp at hh)⟩, fun hge => ?_⟩
  · have hlt := of_decide_eq_true hlt
    have e2 : IntKind.i64.wrap ((k : Int) + 1) = ((k + 1 : Nat) : Int) := by rw [wrap_i64 (by omega) (by omega)]; omega
    refine (snumber_spec h20 (n := 8) (by omega)).mono ?_
    rw [e2]
    rintro e w23 ⟨hf23, ⟨c, p23, ht23, rfl, h23⟩ | ⟨ht23, rfl, h23⟩⟩
    · obtain ⟨hle23, hv23, hp23, hlt23⟩ := take_ok ht23
      refine ⟨_, rfl, ?_⟩
      rw [wrap_u8 (by omega) (by omega)]
      refine (sput h23 hlt23 hm).mono ?_
      rintro e w26 ⟨rfl, hf26, hres⟩
      have hf26' := outs hf20 hsi ((hf23.mono (Y := fun k => k = b ∨ At sl' k) fun _ _ hk => .inl hk).trans' hf26)
      have hlen : (out ++ InfM.bytesAt B k (q + 32)).length = out.length + k := by rw [List.length_append, bytesAt_length]
      rw [hlen] at hres
      rcases hres with ⟨hfull, h26⟩ | ⟨hroom, sl2, h26, hsn⟩
      · refine ⟨rfl, ⟨hf26', sl', hsi, .inr ⟨2, _, _, by decide, ?_, h26⟩⟩, by dsimp only; omega⟩
        rw [← hr]
        by_cases hfit : q + 32 + 8 * v ≤ B.length
        · rw [if_pos hfit, if_pos (by omega)]
        · rw [if_neg hfit, if_pos (by omega)]
      · refine ⟨rfl, ⟨hf26', sl2, hsi.trans hsn (Nat.le_trans hf20.size hf23.size), .inl ⟨k + 1, rfl, by omega, by omega, ?_⟩⟩, by dsimp only; omega⟩
        rw [bytesAt_succ, ← List.append_assoc, ← hv23, show q + 32 + 8 * (k + 1) = p23 by omega]
        exact h26
    · refine ⟨0, rfl, ?_⟩
      rw [wrap_u8 (by omega) (by omega)]
      refine (sput_idle h23 (by decide) 0).mono ?_
      rintro e w26 ⟨rfl, d26⟩
      refine ⟨rfl, ⟨outs hf20 hsi ((hf23.mono (Y := fun k => k = b ∨ At sl' k) fun _ _ hk => .inl hk).trans' (.drew _ d26)), sl', hsi, .inr ⟨6, _, _, by decide, ?_, h23.drew d26⟩⟩, by dsimp only; omega⟩
      rw [← hr]
      have := (take_err ht23).1
      rw [if_neg (by omega), if_neg (by omega)]
  · have hge := of_decide_eq_false hge
    have hk : k = v := by omega
    subst hk
    refine ⟨rfl, hf20, sl', _, _, hsi, .inl ⟨?_, h20⟩⟩
    rw [← hr, if_pos (by omega), if_neg (by omega)]
end Go.Proofs.Ytofejgaanpaieaa
namespace Go.Proofs.Ytofejgaanpaieaa
open Go Vc BitsM HuffM Go.Proofs

theorem iv_nv (f : Nat → Nat) (n : Nat) : iv ((List.range n).map fun k => ((f k : Nat) : Int)) = nv ((List.range n).map f) := by
  rw [← iv_ofNat, List.map_map]; rfl
/-- 'Fixed'. -/
theorem rfixed_spec (w : World) : Calls Try.prog F_cartularyref05_Fixed #[] w fun e w' =>
    ∃ l d : Sl, e = .returned (.tuple #[slv l, slv d]) ∧ Reads w' l.a (nv InfM.fixedLit) ∧ l.len = 288 ∧ Reads w' d.a (nv InfM.fixedDist) ∧ d.len = 32 ∧ Fr (fun _ => False) w w' := by
  refine vc_cartularyref05_Fixed_ok (R := fun v w' => ∃ l d : Sl, v = .tuple #[slv l, slv d] ∧ Reads w' l.a (nv InfM.fixedLit) ∧ l.len = 288 ∧ Reads w' d.a (nv InfM.fixedDist) ∧ d.len = 32 ∧ Fr (fun _ => False) w w') ?_ (fun v w' ⟨l, d, h⟩ => ⟨l, d, by rw [h.1], h.2⟩)
  intro w1 hw1 w2 hw2
  have hf1 : Fr (fun _ => False) w w1 := hw1 ▸ Fr.alloc _ _ _
  have hf2 : Fr (fun _ => False) w1 w2 := hw2 ▸ Fr.alloc _ _ _
  have hs1 : w1.heap.size = w.heap.size + 1 := by rw [hw1]; exact Array.size_push ..
  have hs2 : w2.heap.size = w1.heap.size + 1 := by rw [hw2]; exact Array.size_push ..
  have hol : Own w2 w.heap.size T_int ⟨some ⟨w.heap.size, 0, none⟩, 0, 0⟩ [] := (hw1 ▸ own_empty w T_int : Own w1 _ _ _ _).keep hf2 (by simp)
  have hod : Own w2 w1.heap.size T_int ⟨some ⟨w1.heap.size, 0, none⟩, 0, 0⟩ [] := hw2 ▸ own_empty w1 T_int
  refine ⟨fun l i w' => ∃ n : Nat, i = (n : Int) ∧ n ≤ 288 ∧ Own w' w.heap.size T_int l (iv ((List.range n).map fun k => (fixN k : Int))) ∧ Fr (fun k => k = w.heap.size) w2 w' ∧ Since w2 ⟨some ⟨w.heap.size, 0, none⟩, 0, 0⟩ l,
    fun l i w' => 288 - i.toNat, ⟨0, rfl, by omega, hol, .refl _ _, .refl _ _⟩, ?_⟩
  rintro l5 i w7 ⟨n, rfl, hn, ho, hf, hsn⟩
  have e3 : IntKind.i64.wrap ((n : Int) + 1) = ((n + 1 : Nat) : Int) := by rw [wrap_i64 (by omega) (by omega)]; omega
  rw [e3]
  refine ⟨fun hlt => ?_, fun hge => ?_⟩
  · have hlt := of_decide_eq_true hlt
    have key : ∀ z : Int, (fixN n : Int) = z → ∀ w9, w9 = w7.alloc (.cells #[.int .i64 z] T_int) →
        ∃ w10 l11, (Builtin.append_ #[T_S_int, T_S_int] T_S_int #[.slice l5.a l5.len l5.cap, .slice (some ⟨w7.heap.size, 0, none⟩) 1 1]).run Try.prog w9 = .ok (.slice l11.a l11.len l11.cap) w10 ∧
          ((∃ m : Nat, ((n + 1 : Nat) : Int) = (m : Int) ∧ m ≤ 288 ∧ Own w10 w.heap.size T_int l11 (iv ((List.range m).map fun k => (fixN k : Int))) ∧ Fr (fun k => k = w.heap.size) w2 w10 ∧ Since w2 ⟨some ⟨w.heap.size, 0, none⟩, 0, 0⟩ l11) ∧ 288 - (((n + 1 : Nat) : Int)).toNat < 288 - ((n : Int)).toNat) := fun z hz w9 h9 => by
      obtain ⟨w10, l11, hr, ho2, hf2, hsn2⟩ := append_one' elInt ho (v := .int .i64 z) rfl (by simp [maxLen]; omega) (by simp; omega) (by have := hf.size; omega) h9
      rw [← hz, range_snoc (fun k => (fixN k : Int))] at ho2
      exact ⟨w10, l11, hr, ⟨n + 1, rfl, by omega, ho2, hf.trans hf2 (fun k hk ⟨y, hy, e⟩ => by
        rcases hsn y hy with ⟨x, hx, hb⟩ | hnew
        · cases hx; simp only at hb; omega
        · omega), hsn.trans hsn2 hf.size⟩, by omega⟩
    refine ⟨fun h1 => ⟨fun h2 => ⟨fun h3 => ⟨fun h4 => ?_, fun h4 => ?_⟩, fun h3 => ?_⟩, fun h2 => ⟨fun h3 => ⟨fun h4 => ?_, fun h4 => ?_⟩, fun h3 => ?_⟩⟩, fun h1 => ⟨fun h3 => ⟨fun h4 => ?_, fun h4 => ?_⟩, fun h3 => ?_⟩⟩
    all_goals simp only [decide_eq_true_eq, decide_eq_false_iff_not] at *
    all_goals exact key _ (by unfold fixN; (repeat' split) <;> omega)
  have hge := of_decide_eq_false hge
  have hn8 : n = 288 := by omega
  subst hn8
  rw [iv_nv, ← fixedLit_eq] at ho
  have hod7 : Own w7 w1.heap.size T_int ⟨some ⟨w1.heap.size, 0, none⟩, 0, 0⟩ [] := hod.keep hf (fun y hy => by cases hy; simp only; omega)
  refine ⟨fun l i w' => ∃ n : Nat, i = (n : Int) ∧ n ≤ 32 ∧ Own w' w1.heap.size T_int l (iv ((List.range n).map fun _ => ((5 : Nat) : Int))) ∧ Fr (fun k => k = w1.heap.size) w7 w' ∧ Since w7 ⟨some ⟨w1.heap.size, 0, none⟩, 0, 0⟩ l,
    fun l i w' => 32 - i.toNat, ⟨0, rfl, by omega, hod7, .refl _ _, .refl _ _⟩, ?_⟩
  rintro l37 i w39 ⟨n, rfl, hn, ho9, hf9, hsn9⟩
  have e4 : IntKind.i64.wrap ((n : Int) + 1) = ((n + 1 : Nat) : Int) := by rw [wrap_i64 (by omega) (by omega)]; omega
  rw [e4]
  have z7 := hf.size
  have z9 := hf9.size
  refine ⟨fun hlt w40 h40 => ?_, fun hge => ?_⟩
  · have hlt := of_decide_eq_true hlt
    obtain ⟨w10, l11, hr, ho2, hf2, hsn2⟩ := append_one' elInt ho9 (v := .int .i64 5) rfl (by simp [maxLen]; omega) (by simp; omega) (by omega) h40
    have hk := range_snoc (fun _ => ((5 : Nat) : Int)) n
    rw [show (((5 : Nat) : Int)) = 5 from rfl] at hk
    rw [show (((5 : Nat) : Int)) = 5 from rfl, hk] at ho2
    exact ⟨w10, l11, hr, ⟨n + 1, rfl, by omega, ho2, hf9.trans hf2 (fun k hk ⟨y, hy, e⟩ => by
        rcases hsn9 y hy with ⟨x, hx, hb⟩ | hnew
        · cases hx; simp only at hb; omega
        · omega), hsn9.trans hsn2 hf9.size⟩, by dsimp only; omega⟩
  · have hge := of_decide_eq_false hge
    have hn8 : n = 32 := by omega
    subst hn8
    rw [iv_nv (fun _ => 5), ← fixedDist_eq] at ho9
    have hlb : ∀ x, l5.a = some x → x.block ≠ w1.heap.size := fun x hx => by
      rcases hsn x hx with ⟨y, hy, hb⟩ | hnew
      · cases hy; simp only at hb; omega
      · omega
    refine ⟨_, _, rfl, (ho.keep hf9 hlb).reads, by rw [ho.len, List.length_map, fixedLit_eq, List.length_map, List.length_range], ho9.reads, by rw [ho9.len, List.length_map, fixedDist_eq, List.length_map, List.length_range], ?_⟩
    exact ((hf1.trans' hf2).trans hf (fun k hk h => by omega)).trans hf9 (fun k hk h => by omega)
/-- An entry more for each of two lists. -/
theorem app2 {w : World} {base : Nat} {l m : Sl} {xs ys : List Value} (hl : Own w base T_int l xs) (hm : Own w base T_int m ys) (hne : ∀ x y, l.a = some x → m.a = some y → x.block ≠ y.block) (hbase : base ≤ w.heap.size) (u v : Int) (hx : xs.length < 400) (hy : ys.length < 400) :
    ∀ w13, w13 = w.alloc (.cells #[.int .i64 u] T_int) → ∃ w14 l15, (Builtin.append_ #[T_S_int, T_S_int] T_S_int #[.slice l.a l.len l.cap, .slice (some ⟨w.heap.size, 0, none⟩) 1 1]).run Try.prog w13 = .ok (.slice l15.a l15.len l15.cap) w14 ∧
      ∀ w16, w16 = w14.alloc (.cells #[.int .i64 v] T_int) → ∃ w17 l18, (Builtin.append_ #[T_S_int, T_S_int] T_S_int #[.slice m.a m.len m.cap, .slice (some ⟨w14.heap.size, 0, none⟩) 1 1]).run Try.prog w16 = .ok (.slice l18.a l18.len l18.cap) w17 ∧
        Own w17 base T_int l15 (xs ++ [.int .i64 u]) ∧ Own w17 base T_int l18 (ys ++ [.int .i64 v]) ∧ (∀ x y, l15.a = some x → l18.a = some y → x.block ≠ y.block) ∧ Fr (fun k => base ≤ k) w w17 := by
  intro w13 h13
  obtain ⟨w14, l15, hr, ho, hf, hs⟩ := append_one' elInt hl (v := .int .i64 u) rfl (by unfold maxLen; omega) (by omega) hbase h13
  refine ⟨w14, l15, hr, fun w16 h16 => ?_⟩
  have hm' := hm.keep hf fun y hy ⟨x, hx, e⟩ => hne x y hx hy e.symm
  obtain ⟨w17, l18, hr', ho', hf', hs'⟩ := append_one' elInt hm' (v := .int .i64 v) rfl (by unfold maxLen; omega) (by omega) (Nat.le_trans hbase hf.size) h16
  have hd : ∀ x y, l15.a = some x → m.a = some y → x.block ≠ y.block := fun x y hx hy => by
    rcases hs x hx with ⟨z, hz, hb⟩ | hn
    · rw [← hb]; exact hne z y hz hy
    · have := (hm.blk hy).2; omega
  refine ⟨w17, l18, hr', ho.keep hf' fun x hx ⟨y, hy, e⟩ => hd x y hx hy e, ho', fun x y hx hy => ?_, (hf.mono fun k _ ⟨y, hy, e⟩ => by have := (hl.blk hy).1; omega).trans' (hf'.mono fun k _ ⟨y, hy, e⟩ => by have := (hm.blk hy).1; omega)⟩
  rcases hs' y hy with ⟨z, hz, hb⟩ | hn
  · rw [← hb]; exact hd x z hx hz
  · have := (ho.blk hx).2; omega
def lbV (n : Nat) : Nat := if n < 8 then 3 + n else 3 + (4 + n % 4) * 2 ^ (n / 4 - 1)
def lbK (n : Nat) : Nat := if n < 8 then 0 else n / 4 - 1
def dbV (n : Nat) : Nat := if n < 4 then 1 + n else 1 + (2 + n % 2) * 2 ^ (n / 2 - 1)
def dbK (n : Nat) : Nat := if n < 4 then 0 else n / 2 - 1
theorem lb_step : ∀ n : Nat, n < 28 → IntKind.i64.wrap ((lbV n : Int) + IntKind.i64.wrap (1 * 2 ^ min (((lbK n : Nat) : Int).toNat) 64)) = (lbV (n + 1) : Int) := by decide +kernel
theorem db_step : ∀ n : Nat, n < 30 → IntKind.i64.wrap ((dbV n : Int) + IntKind.i64.wrap (1 * 2 ^ min (((dbK n : Nat) : Int).toNat) 64)) = (dbV (n + 1) : Int) := by decide +kernel
theorem lb_k : ∀ n : Nat, n < 28 → 8 ≤ n → IntKind.i64.wrap (IntKind.i64.wrap (Int.tdiv (n : Int) 4) - 1) = (lbK n : Int) := by decide +kernel
theorem db_k : ∀ n : Nat, n < 30 → 4 ≤ n → IntKind.i64.wrap (IntKind.i64.wrap (Int.tdiv (n : Int) 2) - 1) = (dbK n : Int) := by decide +kernel
theorem lb_all : (List.range 28).map lbV ++ [258] = (List.range 29).map fun i => (InfM.lenBase i).1 := by decide +kernel
theorem lk_all : (List.range 28).map lbK ++ [0] = (List.range 29).map fun i => (InfM.lenBase i).2 := by decide +kernel
theorem db_all : (List.range 30).map dbV = (List.range 30).map fun i => (InfM.distBase i).1 := by decide +kernel
theorem dk_all : (List.range 30).map dbK = (List.range 30).map fun i => (InfM.distBase i).2 := by decide +kernel
theorem nv_range (f : Nat → Nat) (n : Nat) : nv ((List.range n).map f) ++ [.int .i64 (f n : Int)] = nv ((List.range (n + 1)).map f) := by
  rw [nv_snoc, List.range_succ, List.map_append]; rfl
/-- A table of numbers, in a block from lo up to hi. -/
def TabN (w : World) (lo hi : Nat) (l : Sl) (xs : List Nat) : Prop := Reads w l.a (nv xs) ∧ l.len = xs.length ∧ ∀ x, l.a = some x → lo ≤ x.block ∧ x.block < hi
theorem TabN.keep {w w2 : World} {lo hi : Nat} {l : Sl} {xs : List Nat} (h : TabN w lo hi l xs) {X : Nat → Prop} (hf : Fr X w w2) (hx : ∀ k, lo ≤ k → k < hi → ¬ X k) : TabN w2 lo hi l xs :=
  ⟨h.1.keep hf fun x hxx => hx _ (h.2.2 x hxx).1 (h.2.2 x hxx).2, h.2⟩
theorem TabN.get {w : World} {lo hi : Nat} {l : Sl} {xs : List Nat} (h : TabN w lo hi l xs) {k x : Nat} (hk : xs[k]? = some x) : ∃ y, l.a = some y ∧ w.cell? (y.add k) = some (.int .i64 (x : Int)) :=
  h.1 k _ (nv_get hk)
theorem Own.tabN {w : World} {base : Nat} {l : Sl} {xs : List Nat} (h : Own w base T_int l (nv xs)) {hi : Nat} (hh : w.heap.size ≤ hi) : TabN w base hi l xs :=
  ⟨h.reads, by rw [h.len]; simp [nv], fun x hx => ⟨(h.blk hx).1, Nat.lt_of_lt_of_le (h.blk hx).2 hh⟩⟩
/-- 'Lengths'. -/
theorem rlengths_spec (w : World) : Calls Try.prog F_cartularyref05_Lengths #[] w fun e w' =>
    ∃ l9 l10 l11 l12 : Sl, e = .returned (.tuple #[slv l9, slv l10, slv l11, slv l12]) ∧ TabN w' w.heap.size w'.heap.size l9 ((List.range 29).map fun i => (InfM.lenBase i).1) ∧ TabN w' w.heap.size w'.heap.size l10 ((List.range 29).map fun i => (InfM.lenBase i).2) ∧
      TabN w' w.heap.size w'.heap.size l11 ((List.range 30).map fun i => (InfM.distBase i).1) ∧ TabN w' w.heap.size w'.heap.size l12 ((List.range 30).map fun i => (InfM.distBase i).2) ∧ Fr (fun _ => False) w w' := by
  refine vc_cartularyref05_Lengths_ok (R := fun v w' => ∃ l9 l10 l11 l12 : Sl, v = .tuple #[slv l9, slv l10, slv l11, slv l12] ∧ TabN w' w.heap.size w'.heap.size l9 ((List.range 29).map fun i => (InfM.lenBase i).1) ∧ TabN w' w.heap.size w'.heap.size l10 ((List.range 29).map fun i => (InfM.lenBase i).2) ∧
      TabN w' w.heap.size w'.heap.size l11 ((List.range 30).map fun i => (InfM.distBase i).1) ∧ TabN w' w.heap.size w'.heap.size l12 ((List.range 30).map fun i => (InfM.distBase i).2) ∧ Fr (fun _ => False) w w') ?_ (fun v w' ⟨l9, l10, l11, l12, h⟩ => ⟨l9, l10, l11, l12, by rw [h.1], h.2⟩)
  have start : ∀ {w w1 w2 : World}, w1 = w.alloc (.cells #[] T_int) → w2 = w1.alloc (.cells #[] T_int) → Own w2 w.heap.size T_int ⟨some ⟨w.heap.size, 0, none⟩, 0, 0⟩ [] ∧ Own w2 w.heap.size T_int ⟨some ⟨w1.heap.size, 0, none⟩, 0, 0⟩ [] ∧ Fr (fun _ => False) w w2 ∧ w1.heap.size = w.heap.size + 1 := by
    intro w w1 w2 hw1 hw2
    have hf1 : Fr (fun _ => False) w w1 := hw1 ▸ Fr.alloc _ _ _
    have hf2 : Fr (fun _ => False) w1 w2 := hw2 ▸ Fr.alloc _ _ _
    have hs1 : w1.heap.size = w.heap.size + 1 := by rw [hw1]; exact Array.size_push ..
    have ho2 : Own w2 w1.heap.size T_int ⟨some ⟨w1.heap.size, 0, none⟩, 0, 0⟩ [] := hw2 ▸ own_empty w1 T_int
    exact ⟨(hw1 ▸ own_empty w T_int : Own w1 _ _ _ _).keep hf2 (by simp), ho2.mono (by omega), hf1.trans' hf2, hs1⟩
  have up : ∀ {w wa wb : World}, Fr (fun _ => False) w wa → Fr (fun k => w.heap.size ≤ k) wa wb → Fr (fun _ => False) w wb := fun h h' => h.trans h' fun k hk hY => by omega
  intro w1 hw1 w2 hw2
  obtain ⟨ha, hb, hf, hs1⟩ := start hw1 hw2
  refine ⟨fun l m x i w' => ∃ n : Nat, i = (n : Int) ∧ n ≤ 28 ∧ x = (lbV n : Int) ∧ Own w' w.heap.size T_int l (nv ((List.range n).map lbV)) ∧ Own w' w.heap.size T_int m (nv ((List.range n).map lbK)) ∧ (∀ x y, l.a = some x → m.a = some y → x.block ≠ y.block) ∧ Fr (fun _ => False) w w',
    fun _ _ _ i _ => 28 - i.toNat, ⟨0, rfl, by omega, rfl, ha, hb, fun x y hx hy => by cases hx; cases hy; simp only; omega, hf⟩, ?_⟩
  rintro l5 l6 x i w9 ⟨n, rfl, hn, rfl, ho, hm, hd, hf9⟩
  have e1 : IntKind.i64.wrap ((n : Int) + 1) = ((n + 1 : Nat) : Int) := by rw [wrap_i64 (by omega) (by omega)]; omega
  refine ⟨fun hlt => ?_, fun hge => ?_⟩
  · have hlt := of_decide_eq_true hlt
    refine ⟨fun k w' => w' = w9 ∧ k = (lbK n : Int), ⟨fun h8 => ⟨by decide, rfl, lb_k n (by omega) (by have := of_decide_eq_true h8; omega)⟩, fun h8 => ⟨rfl, ?_⟩⟩, ?_⟩
    · have := of_decide_eq_false h8
      unfold lbK; rw [if_pos (by omega)]; rfl
    rintro k w12 ⟨hw, rfl⟩ w13 h13
    subst hw
    obtain ⟨w14, l15, hr, h⟩ := app2 ho hm hd hf9.size (lbV n : Int) (lbK n : Int) (by simp [nv]; omega) (by simp [nv]; omega) w13 h13
    refine ⟨w14, l15, hr, fun w16 h16 => ?_⟩
    obtain ⟨w17, l18, hr', ho', hm', hd', hf'⟩ := h w16 h16
    rw [nv_range] at ho' hm'
    rw [lb_step n (by omega), e1]
    exact ⟨w17, l18, hr', by omega, ⟨n + 1, rfl, by omega, rfl, ho', hm', hd', up hf9 hf'⟩, by dsimp only; omega⟩
  have hge := of_decide_eq_false hge
  have hn8 : n = 28 := by omega
  subst hn8
  intro w19 h19
  obtain ⟨w20, l21, hr, h⟩ := app2 ho hm hd hf9.size 258 0 (by simp [nv]) (by simp [nv]) w19 h19
  refine ⟨w20, l21, hr, fun w22 h22 => ?_⟩
  obtain ⟨w23, l24, hr', ho', hm', hd', hf'⟩ := h w22 h22
  have hL : TabN w23 w.heap.size w23.heap.size l21 ((List.range 29).map fun i => (InfM.lenBase i).1) := by
    rw [← lb_all]; refine Own.tabN ?_ (Nat.le_refl _); rw [← nv_snoc]; exact ho'
  have hK : TabN w23 w.heap.size w23.heap.size l24 ((List.range 29).map fun i => (InfM.lenBase i).2) := by
    rw [← lk_all]; refine Own.tabN ?_ (Nat.le_refl _); rw [← nv_snoc]; exact hm'
  have hf23 := up hf9 hf'
  refine ⟨w23, l24, hr', fun w25 h25 w26 h26 => ?_⟩
  obtain ⟨ga, gb, gf, gs1⟩ := start h25 h26
  refine ⟨fun x l m i w' => ∃ n : Nat, i = (n : Int) ∧ n ≤ 30 ∧ x = (dbV n : Int) ∧ Own w' w23.heap.size T_int l (nv ((List.range n).map dbV)) ∧ Own w' w23.heap.size T_int m (nv ((List.range n).map dbK)) ∧ (∀ x y, l.a = some x → m.a = some y → x.block ≠ y.block) ∧ Fr (fun _ => False) w23 w',
    fun _ _ _ i _ => 30 - i.toNat, ⟨0, rfl, by omega, rfl, ga, gb, fun x y hx hy => by cases hx; cases hy; simp only; omega, gf⟩, ?_⟩
  rintro x l30 l31 i w33 ⟨n, rfl, hn, rfl, go, gm, gd, gf33⟩
  have e1 : IntKind.i64.wrap ((n : Int) + 1) = ((n + 1 : Nat) : Int) := by rw [wrap_i64 (by omega) (by omega)]; omega
  refine ⟨fun hlt => ?_, fun hge => ?_⟩
  · have hlt := of_decide_eq_true hlt
    refine ⟨fun k w' => w' = w33 ∧ k = (dbK n : Int), ⟨fun h8 => ⟨by decide, rfl, db_k n (by omega) (by have := of_decide_eq_true h8; omega)⟩, fun h8 => ⟨rfl, ?_⟩⟩, ?_⟩
    · have := of_decide_eq_false h8
      unfold dbK; rw [if_pos (by omega)]; rfl
    rintro k w36 ⟨hw, rfl⟩ w37 h37
    subst hw
    obtain ⟨w38, l39, hr, h⟩ := app2 go gm gd gf33.size (dbV n : Int) (dbK n : Int) (by simp [nv]; omega) (by simp [nv]; omega) w37 h37
    refine ⟨w38, l39, hr, fun w40 h40 => ?_⟩
    obtain ⟨w41, l42, hr', go', gm', gd', gf'⟩ := h w40 h40
    rw [nv_range] at go' gm'
    rw [db_step n (by omega), e1]
    exact ⟨w41, l42, hr', by omega, ⟨n + 1, rfl, by omega, rfl, go', gm', gd', up gf33 gf'⟩, by dsimp only; omega⟩
  have hge := of_decide_eq_false hge
  have hn8 : n = 30 := by omega
  subst hn8
  rw [db_all] at go
  rw [dk_all] at gm
  have z1 := hf23.size
  have z2 := gf33.size
  have wide : ∀ {w' : World} {lo hi lo' hi' : Nat} {l : Sl} {xs : List Nat}, TabN w' lo hi l xs → lo' ≤ lo → hi ≤ hi' → TabN w' lo' hi' l xs := fun h h1 h2 => ⟨h.1, h.2.1, fun x hx => ⟨Nat.le_trans h1 (h.2.2 x hx).1, Nat.lt_of_lt_of_le (h.2.2 x hx).2 h2⟩⟩
  exact ⟨_, _, _, _, rfl, wide (hL.keep gf33 (by simp)) (Nat.le_refl _) z2, wide (hK.keep gf33 (by simp)) (Nat.le_refl _) z2, wide (Own.tabN go (Nat.le_refl _)) z1 (Nat.le_refl _), wide (Own.tabN gm (Nat.le_refl _)) z1 (Nat.le_refl _), hf23.trans' gf33⟩
end Go.Proofs.Ytofejgaanpaieaa
namespace Go.Proofs.Ytofejgaanpaieaa
open Go Vc BitsM HuffM Go.Proofs

theorem TabN.at {w0 : World} {lo hi : Nat} {l : Sl} {xs : List Nat} (h : TabN w0 lo hi l xs) {k x : Nat} (hk : xs[k]? = some x) : ∃ y, l.a = some y ∧ ∀ w', TabN w' lo hi l xs → w'.cell? (y.add k) = some (.int .i64 (x : Int)) := by
  obtain ⟨y, hy, _⟩ := h.get hk
  refine ⟨y, hy, fun w' h' => ?_⟩
  obtain ⟨z, hz, hc⟩ := h'.get hk
  rw [hy] at hz; cases hz; exact hc
theorem BitRows.oblk {w : World} {lo lo' hi : Nat} {o : Sl} {bss : List (List Bool)} (h : BitRows w lo lo' hi o bss) : ∀ x, o.a = some x → lo ≤ x.block ∧ x.block < w.heap.size := by
  obtain ⟨ins, h1, h2, h3⟩ := h
  exact fun x hx => h2.blk hx
theorem RS.pos {w : World} {base b : Nat} {bl0 sl : Sl} {B : List Bool} {p : Nat} {out : List UInt8} {most er : Nat} (h : RS w base b bl0 sl B p out most er) : cellNat w ⟨b, 1, none⟩ = p := by
  unfold cellNat
  rw [cell_blk h.blk]; simp
theorem RS.c4 {w : World} {base b : Nat} {bl0 sl : Sl} {B : List Bool} {p : Nat} {out : List UInt8} {most er : Nat} (h : RS w base b bl0 sl B p out most er) : w.cell? ⟨b, 4, none⟩ = some (.int .i64 (er : Int)) := by
  rw [cell_blk h.blk]; rfl
theorem RS.c2 {w : World} {base b : Nat} {bl0 sl : Sl} {B : List Bool} {p : Nat} {out : List UInt8} {most er : Nat} (h : RS w base b bl0 sl B p out most er) : w.cell? ⟨b, 2, none⟩ = some (.slice sl.a sl.len sl.cap) := by
  rw [cell_blk h.blk]; rfl
theorem RS.len {w : World} {base b : Nat} {bl0 sl : Sl} {B : List Bool} {p : Nat} {out : List UInt8} {most er : Nat} (h : RS w base b bl0 sl B p out most er) : sl.len = out.length := by
  rw [h.own.len, List.length_map]
theorem RS.lts {w : World} {base b : Nat} {bl0 sl : Sl} {B : List Bool} {p : Nat} {out : List UInt8} {most er : Nat} (h : RS w base b bl0 sl B p out most er) : b < w.heap.size ∧ ∀ y, sl.a = some y → y.block < w.heap.size :=
  ⟨Nat.lt_of_lt_of_le h.hb h.hbase, fun y hy => (h.own.blk hy).2⟩
/-- 'packed'. -/
theorem spacked_spec {w : World} {base b : Nat} {bl0 sl : Sl} {B : List Bool} {p : Nat} {out : List UInt8} {most : Nat} (h : RS w base b bl0 sl B p out most 0) (hm : most ≤ 65536) (hout : out.length ≤ most)
    {a a' : Option Addr} {n c n' c' : Nat} {lit dist : List Nat} (hl : Reads w a (nv lit)) (hln : lit.length = n) (hlf : Fits lit) (hls : lit.length ≤ 400) (hd : Reads w a' (nv dist)) (hdn : dist.length = n') (hdf : Fits dist) (hds : dist.length ≤ 400) :
    Calls Try.prog F_cartularyref05_Stream_packed #[.pointer (some ⟨b, 0, none⟩), .slice a n c, .slice a' n' c'] w fun e w' => e = .returned (.tuple #[]) ∧ SOut w w' base b bl0 sl B most (InfM.packed lit dist most B (B.length + 1) p out) := by
  refine vc_cartularyref05_Stream_packed_ok (R := fun v w' => v = .tuple #[] ∧ SOut w w' base b bl0 sl B most (InfM.packed lit dist most B (B.length + 1) p out)) ?_ (fun v w' h => ⟨by rw [h.1], h.2⟩)
  have hsm := h.small
  generalize hr0 : InfM.packed lit dist most B (B.length + 1) p out = r
  obtain ⟨hbw, hslw⟩ := h.lts
  refine (codes_spec hl hln hlf hls).mono ?_
  rintro e w2 ⟨l3, rfl, hc3, hf2⟩
  refine ⟨_, rfl, (codes_spec (hd.keep hf2 (by simp)) hdn hdf hds).mono ?_⟩
  rintro e w5 ⟨l6, rfl, hc6, hf5⟩
  refine ⟨_, rfl, (rlengths_spec w5).mono ?_⟩
  rintro e w8 ⟨l9, l10, l11, l12, rfl, ht9, ht10, ht11, ht12, hf8⟩
  have z2 := hf2.size
  have z5 := hf5.size
  have z8 := hf8.size
  have h8 := ((h.keep hf2 (by simp) (by simp) (by simp)).keep hf5 (by simp) (by simp) (by simp)).keep hf8 (by simp) (by simp) (by simp)
  have hFw8 : Fr (fun k => k = b ∨ At sl k) w w8 := ((hf2.trans' hf5).trans' hf8).mono fun _ _ hk => hk.elim
  have hX : ∀ k, w.heap.size ≤ k → ¬ (k = b ∨ At sl k) := fun k hk hh => by
    rcases hh with hh | ⟨y, hy, e⟩
    · omega
    · have := hslw y hy; omega
  have hc3' := hc3.keep hf5 (by simp) (by simp) |>.keep hf8 (by simp) (by simp)
  have hc6' := hc6.keep hf8 (by simp) (by simp)
  have k3 : ∀ {w' : World}, Fr (fun k => k = b ∨ At sl k) w8 w' → BitRows w' w.heap.size w.heap.size w2.heap.size l3 ((List.range lit.length).map (cbits lit)) := fun hf => hc3'.keep hf (fun x hx => hX _ (hc3.oblk x hx).1) (fun k h1 h2 => hX _ h1)
  have k6 : ∀ {w' : World}, Fr (fun k => k = b ∨ At sl k) w8 w' → BitRows w' w2.heap.size w2.heap.size w5.heap.size l6 ((List.range dist.length).map (cbits dist)) := fun hf => hc6'.keep hf (fun x hx => hX _ (by have := (hc6.oblk x hx).1; omega)) (fun k h1 h2 => hX _ (by omega))
  have kt : ∀ {w' : World} {l : Sl} {xs : List Nat}, Fr (fun k => k = b ∨ At sl k) w8 w' → TabN w8 w5.heap.size w8.heap.size l xs → TabN w' w5.heap.size w8.heap.size l xs := fun hf ht => ht.keep hf fun k h1 h2 => hX _ (by omega)
  -- what the end comes to
  have fin : ∀ {w' : World} {slx : Sl} {px : Nat} {ox : List UInt8}, Fr (fun k => k = b ∨ At sl k) w8 w' → Since w8 sl slx → ((r = .ok (ox, px) ∧ RS w' base b bl0 slx B px ox most 0) ∨ (∃ er, er ≠ 0 ∧ r = .error er ∧ RS w' base b bl0 slx B px ox most er)) → SOut w w' base b bl0 sl B most r := fun hf hs hx =>
    ⟨hFw8.trans' hf, _, _, _, (Since.refl w sl).trans hs (by omega), hx⟩
  refine ⟨_, _, _, _, rfl, fun w' => ∃ sl' p' out', Fr (fun k => k = b ∨ At sl k) w8 w' ∧ Since w8 sl sl' ∧ ((RS w' base b bl0 sl' B p' out' most 0 ∧ out'.length ≤ most ∧ ∃ f, B.length < f + p' ∧ InfM.packed lit dist most B f p' out' = r) ∨ (∃ er, er ≠ 0 ∧ r = .error er ∧ RS w' base b bl0 sl' B p' out' most er)),
    fun w' => B.length - cellNat w' ⟨b, 1, none⟩, ⟨sl, p, out, .refl _ _, .refl _ _, .inl ⟨h8, hout, B.length + 1, by omega, hr0⟩⟩, ?_⟩
  rintro w15 ⟨sl', p', out', hf15, hs15, ⟨h15, hfit, f, hfp, hr⟩ | ⟨er, he, hre, h15⟩⟩
  rotate_left 1
  · exact ⟨_, h15.c4, fun hh => (he (by simpa using hh)).elim, fun _ => ⟨rfl, fin hf15 hs15 (.inr ⟨er, he, hre, h15⟩)⟩⟩
  have hp' := h15.hp
  obtain ⟨g, rfl⟩ : ∃ g, f = g + 1 := ⟨f - 1, by omega⟩
  rw [InfM.packed] at hr
  have bsub : ∀ {w1 w2 : World}, Fr (· = b) w1 w2 → Fr (fun k => k = b ∨ At sl k) w1 w2 := fun hf => hf.mono fun _ _ hk => .inl hk
  refine ⟨_, h15.c4, fun _ => ?_, fun hh => (by simp at hh)⟩
  refine (ssym_spec h15 (k3 hf15) hlf hls).mono ?_
  rintro e w18 ⟨hf18, ⟨v, p1, hsy, rfl, hvl, hp1, h18⟩ | ⟨er, he, hsy, rfl, h18⟩⟩
  rotate_left 1
  · rw [hsy] at hr
    exact ⟨_, rfl, _, h18.c4, fun _ => ⟨rfl, fin (hf15.trans' (bsub hf18)) hs15 (.inr ⟨er, he, hr.symm, h18⟩)⟩, fun hh => (he (by simpa using hh)).elim⟩
  rw [hsy] at hr
  dsimp only at hr
  have hfw18 := hf15.trans' (bsub hf18)
  have hp1B := h18.hp
  refine ⟨_, rfl, _, h18.c4, fun hh => (by simp at hh), fun _ => ⟨fun h256 => ?_, fun hn256 => ?_⟩⟩
  · have h256 : v = 256 := by have : ((v : Nat) : Int) = 256 := by simpa using h256
                              omega
    rw [if_pos h256] at hr
    exact ⟨rfl, fin hfw18 hs15 (.inl ⟨hr.symm, h18⟩)⟩
  have hn256 : v ≠ 256 := fun hz => by rw [hz] at hn256; simp at hn256
  rw [if_neg hn256] at hr
  refine ⟨fun hlt => ?_, fun hge => ?_⟩
  · have hlt := of_decide_eq_true hlt
    have hlt : v < 256 := by omega
    rw [if_pos hlt] at hr
    rw [wrap_u8 (by omega) (by omega)]
    refine (sput h18 hlt hm).mono ?_
    rintro e w22 ⟨rfl, hf22, hres⟩
    have hf22' := outs hfw18 hs15 hf22
    rcases hres with ⟨hfull, h22⟩ | ⟨hroom, sl2, h22, hsn⟩
    · rw [if_pos (by omega)] at hr
      refine ⟨rfl, ⟨sl', p1, out', hf22', hs15, .inr ⟨2, by decide, hr.symm, h22⟩⟩, ?_⟩
      dsimp only; rw [h22.pos, h15.pos]; omega
    · rw [if_neg (by omega)] at hr
      refine ⟨rfl, ⟨sl2, p1, _, hf22', hs15.trans hsn hfw18.size, .inl ⟨h22, by simp; omega, g, by omega, hr⟩⟩, ?_⟩
      dsimp only; rw [h22.pos, h15.pos]; omega
  have hge := of_decide_eq_false hge
  rw [if_neg (show ¬ v < 256 by omega)] at hr
  generalize hrep : InfM.rep dist most B v p1 out' = r2 at hr
  unfold InfM.rep at hrep
  have rbad : ∀ {er : Nat}, r2 = .error er → r = .error er := fun hx => by rw [hx] at hr; exact hr.symm
  refine ⟨fun hgt => ?_, fun hle w25 d25 => ?_⟩
  · have hgt := of_decide_eq_true hgt
    rw [if_pos (show 285 < v by omega)] at hrep
    refine (fail_spec h18 3).mono ?_
    rintro e w24 ⟨rfl, h24, hf24⟩
    exact ⟨rfl, rfl, fin (hfw18.trans' (bsub hf24)) hs15 (.inr ⟨3, by decide, rbad hrep.symm, h24⟩)⟩
  have hle := of_decide_eq_false hle
  rw [if_neg (show ¬ 285 < v by omega)] at hrep
  have h25 := h18.drew d25
  have hf25 := hfw18.trans' (.drew _ d25)
  have e1 : IntKind.i64.wrap ((v : Int) - 257) = ((v - 257 : Nat) : Int) := by rw [wrap_i64 (by omega) (by omega)]; omega
  have hv28 : v - 257 < 29 := by omega
  obtain ⟨hl1, hl2⟩ := InfM.lenBase_le (v - 257) (by omega)
  obtain ⟨a9, ha9, hc9⟩ := ht9.at (k := v - 257) (x := (InfM.lenBase (v - 257)).1) (by rw [List.getElem?_map, List.getElem?_range hv28]; rfl)
  obtain ⟨a10, ha10, hc10⟩ := ht10.at (k := v - 257) (x := (InfM.lenBase (v - 257)).2) (by rw [List.getElem?_map, List.getElem?_range hv28]; rfl)
  have n9 : l9.len = 29 := by rw [ht9.2.1]; simp
  have n10 : l10.len = 29 := by rw [ht10.2.1]; simp
  have n11 : l11.len = 30 := by rw [ht11.2.1]; simp
  have n12 : l12.len = 30 := by rw [ht12.2.1]; simp
  generalize InfM.lenBase (v - 257) = L at hl1 hl2 hc9 hc10 hrep
  rw [e1]
  refine ⟨fun w' => Fr (fun k => k = b ∨ At sl k) w8 w', hf25, ⟨by omega, by omega⟩, a9, ha9, _, fun w' hw' => (by rw [Int.toNat_natCast, Nat.mul_one]; exact hc9 _ (kt hw' ht9)), ⟨by omega, by omega⟩, a10, ha10, _, fun w' hw' => (by rw [Int.toNat_natCast, Nat.mul_one]; exact hc10 _ (kt hw' ht10)), ?_⟩
  have hm5 : 2 ^ L.2 ≤ 2 ^ 5 := Nat.pow_le_pow_right (by decide) hl2
  refine (snumber_spec h25 (n := L.2) (by omega)).mono ?_
  rintro e w34 ⟨hf34, ⟨more, p2, htk, rfl, h34⟩ | ⟨htk, rfl, h34⟩⟩
  rotate_left 1
  · rw [htk] at hrep
    have hf34' := hf25.trans' (bsub hf34)
    refine ⟨_, rfl, hf34', (ssym_idle h34 (by decide) l6).mono ?_⟩
    rintro e w37 ⟨rfl, hw⟩
    replace hw := hw.symm
    subst hw
    refine ⟨_, rfl, fun w' => w' = w34, ⟨_, h34.c4, fun hh => (by simp at hh), fun _ => rfl⟩, ?_⟩
    rintro w43 hw
    replace hw := hw.symm
    subst hw
    exact ⟨_, h34.c4, fun _ => ⟨rfl, fin hf34' hs15 (.inr ⟨6, by decide, rbad hrep.symm, h34⟩)⟩, fun hh => (by simp at hh)⟩
  rw [htk] at hrep
  dsimp only at hrep
  obtain ⟨_, _, hp2, hmore⟩ := take_ok htk
  have hf34' := hf25.trans' (bsub hf34)
  refine ⟨_, rfl, hf34', (ssym_spec h34 (k6 hf34') hdf hds).mono ?_⟩
  rintro e w37 ⟨hf37, ⟨d, p3, hsy2, rfl, hdl, hp3, h37⟩ | ⟨er, he, hsy2, rfl, h37⟩⟩
  rotate_left 1
  · rw [hsy2] at hrep
    have hf37' := hf34'.trans' (bsub hf37)
    refine ⟨_, rfl, fun w' => w' = w37, ⟨_, h37.c4, fun hh => (he (by simpa using hh)).elim, fun _ => rfl⟩, ?_⟩
    rintro w43 hw
    replace hw := hw.symm
    subst hw
    exact ⟨_, h37.c4, fun _ => ⟨rfl, fin hf37' hs15 (.inr ⟨er, he, rbad hrep.symm, h37⟩)⟩, fun hh => (he (by simpa using hh)).elim⟩
  rw [hsy2] at hrep
  dsimp only at hrep
  have hf37' := hf34'.trans' (bsub hf37)
  refine ⟨_, rfl, fun w' => Fr (fun k => k = b ∨ At sl k) w8 w' ∧ ((d ≤ 29 ∧ RS w' base b bl0 sl' B p3 out' most 0 ∧ w'.heap.size = w37.heap.size) ∨ (29 < d ∧ RS w' base b bl0 sl' B p3 out' most 3)), ⟨_, h37.c4, fun _ => ⟨fun hgt => ?_, fun hle => ?_⟩, fun hh => (by simp at hh)⟩, ?_⟩
  · have hgt := of_decide_eq_true hgt
    refine (fail_spec h37 3).mono ?_
    rintro e w42 ⟨rfl, h42, hf42⟩
    exact ⟨rfl, hf37'.trans' (bsub hf42), .inr ⟨by omega, h42⟩⟩
  · have hle := of_decide_eq_false hle
    exact ⟨hf37', .inl ⟨by omega, h37, rfl⟩⟩
  rintro w43 ⟨hf43, ⟨hd29, h43, _⟩ | ⟨hd29, h43⟩⟩
  rotate_left 1
  · rw [if_pos hd29] at hrep
    exact ⟨_, h43.c4, fun _ => ⟨rfl, fin hf43 hs15 (.inr ⟨3, by decide, rbad hrep.symm, h43⟩)⟩, fun hh => (by simp at hh)⟩
  rw [if_neg (show ¬ 29 < d by omega)] at hrep
  refine ⟨_, h43.c4, fun hh => (by simp at hh), fun _ w45 d45 => ?_⟩
  have h45 := h43.drew d45
  have hf45 := hf43.trans' (.drew _ d45)
  obtain ⟨hd1, hd2, hd3⟩ := InfM.distBase_le d (by omega)
  have hd30 : d < 30 := by omega
  obtain ⟨a11, ha11, hc11⟩ := ht11.at (k := d) (x := (InfM.distBase d).1) (by rw [List.getElem?_map, List.getElem?_range hd30]; rfl)
  obtain ⟨a12, ha12, hc12⟩ := ht12.at (k := d) (x := (InfM.distBase d).2) (by rw [List.getElem?_map, List.getElem?_range hd30]; rfl)
  generalize InfM.distBase d = D at hd1 hd2 hd3 hc11 hc12 hrep
  refine ⟨fun w' => Fr (fun k => k = b ∨ At sl k) w8 w', hf45, ⟨by omega, by omega⟩, a11, ha11, _, fun w' hw' => (by rw [Int.toNat_natCast, Nat.mul_one]; exact hc11 _ (kt hw' ht11)), ⟨by omega, by omega⟩, a12, ha12, _, fun w' hw' => (by rw [Int.toNat_natCast, Nat.mul_one]; exact hc12 _ (kt hw' ht12)), ?_⟩
  have hm13 : 2 ^ D.2 ≤ 2 ^ 13 := Nat.pow_le_pow_right (by decide) hd3
  have en : IntKind.i64.wrap ((L.1 : Int) + (more : Int)) = ((L.1 + more : Nat) : Int) := by rw [wrap_i64 (by omega) (by omega)]; omega
  have hn300 : L.1 + more ≤ 300 := by omega
  refine (snumber_spec h45 (n := D.2) (by omega)).mono ?_
  rintro e w54 ⟨hf54, ⟨far, p4, htk2, rfl, h54⟩ | ⟨htk2, rfl, h54⟩⟩
  rotate_left 1
  · rw [htk2] at hrep
    have hf54' := hf45.trans' (bsub hf54)
    refine ⟨_, rfl, hf54', fun w' => w' = w54, ⟨_, h54.c4, fun hh => (by simp at hh), fun _ => rfl⟩, ?_⟩
    rintro w61 hw
    replace hw := hw.symm
    subst hw
    refine ⟨fun _ w' => w' = w54, fun _ _ => 0, rfl, ?_⟩
    rintro i w65 hw
    replace hw := hw.symm
    subst hw
    have done : (∃ sl' p' out', Fr (fun k => k = b ∨ At sl k) w8 w54 ∧ Since w8 sl sl' ∧ ((RS w54 base b bl0 sl' B p' out' most 0 ∧ out'.length ≤ most ∧ ∃ f, B.length < f + p' ∧ InfM.packed lit dist most B f p' out' = r) ∨ (∃ er, er ≠ 0 ∧ r = .error er ∧ RS w54 base b bl0 sl' B p' out' most er))) ∧ B.length - cellNat w54 ⟨b, 1, none⟩ < B.length - cellNat w15 ⟨b, 1, none⟩ :=
      ⟨⟨sl', p3, out', hf54', hs15, .inr ⟨6, by decide, rbad hrep.symm, h54⟩⟩, by rw [h54.pos, h15.pos]; have := h54.hp; omega⟩
    exact ⟨fun _ => ⟨_, h54.c4, fun hh => (by simp at hh), fun _ => done⟩, fun _ => done⟩
  rw [htk2] at hrep
  dsimp only at hrep
  obtain ⟨_, _, hp4, hfar⟩ := take_ok htk2
  have hf54' := hf45.trans' (bsub hf54)
  have eback : IntKind.i64.wrap ((D.1 : Int) + (far : Int)) = ((D.1 + far : Nat) : Int) := by rw [wrap_i64 (by omega) (by omega)]; omega
  have hback1 : 1 ≤ D.1 + far := by omega
  have hback2 : D.1 + far ≤ 40000 := by omega
  refine ⟨_, rfl, hf54', ?_⟩
  rw [en, eback]
  generalize D.1 + far = back at hback1 hback2 hrep ⊢
  generalize L.1 + more = n at hn300 hrep ⊢
  refine ⟨fun w' => Fr (fun k => k = b ∨ At sl k) w8 w' ∧ ((back ≤ out'.length ∧ RS w' base b bl0 sl' B p4 out' most 0) ∨ (out'.length < back ∧ RS w' base b bl0 sl' B p4 out' most 3)), ⟨_, h54.c4, fun _ => ⟨_, h54.c2, fun hgt => ?_, fun hle => ?_⟩, fun hh => (by simp at hh)⟩, ?_⟩
  · have hgt := of_decide_eq_true hgt
    rw [h54.len] at hgt
    refine (fail_spec h54 3).mono ?_
    rintro e w60 ⟨rfl, h60, hf60⟩
    exact ⟨rfl, hf54'.trans' (bsub hf60), .inr ⟨by omega, h60⟩⟩
  · have hle := of_decide_eq_false hle
    rw [h54.len] at hle
    exact ⟨hf54', .inl ⟨by omega, h54⟩⟩
  rintro w61 ⟨hf61, ⟨hbk, h61⟩ | ⟨hbk, h61⟩⟩
  rotate_left 1
  · rw [if_pos hbk] at hrep
    refine ⟨fun _ w' => w' = w61, fun _ _ => 0, rfl, ?_⟩
    rintro i w65 hw
    replace hw := hw.symm
    subst hw
    have done : (∃ sl' p' out', Fr (fun k => k = b ∨ At sl k) w8 w61 ∧ Since w8 sl sl' ∧ ((RS w61 base b bl0 sl' B p' out' most 0 ∧ out'.length ≤ most ∧ ∃ f, B.length < f + p' ∧ InfM.packed lit dist most B f p' out' = r) ∨ (∃ er, er ≠ 0 ∧ r = .error er ∧ RS w61 base b bl0 sl' B p' out' most er))) ∧ B.length - cellNat w61 ⟨b, 1, none⟩ < B.length - cellNat w15 ⟨b, 1, none⟩ :=
      ⟨⟨sl', p4, out', hf61, hs15, .inr ⟨3, by decide, rbad hrep.symm, h61⟩⟩, by rw [h61.pos, h15.pos]; have := h61.hp; omega⟩
    exact ⟨fun _ => ⟨_, h61.c4, fun hh => (by simp at hh), fun _ => done⟩, fun _ => done⟩
  rw [if_neg (show ¬ out'.length < back by omega)] at hrep
  refine ⟨fun i w' => Fr (fun k => k = b ∨ At sl k) w8 w' ∧ ∃ sl2, Since w8 sl sl2 ∧ ((∃ k : Nat, i = (k : Int) ∧ k ≤ n ∧ out'.length + k ≤ most ∧ RS w' base b bl0 sl2 B p4 (InfM.copy back k out') most 0) ∨ (most < out'.length + n ∧ ∃ ox, RS w' base b bl0 sl2 B p4 ox most 2)),
    fun i _ => n - i.toNat, ⟨hf61, sl', hs15, .inl ⟨0, rfl, Nat.zero_le _, hfit, h61⟩⟩, ?_⟩
  rintro i w65 ⟨hf65, sl2, hs65, ⟨k, rfl, hk, hkm, h65⟩ | ⟨hfull, ox, h65⟩⟩
  rotate_left 1
  · rw [if_pos hfull] at hrep
    have done : (∃ sl' p' out', Fr (fun k => k = b ∨ At sl k) w8 w65 ∧ Since w8 sl sl' ∧ ((RS w65 base b bl0 sl' B p' out' most 0 ∧ out'.length ≤ most ∧ ∃ f, B.length < f + p' ∧ InfM.packed lit dist most B f p' out' = r) ∨ (∃ er, er ≠ 0 ∧ r = .error er ∧ RS w65 base b bl0 sl' B p' out' most er))) ∧ B.length - cellNat w65 ⟨b, 1, none⟩ < B.length - cellNat w15 ⟨b, 1, none⟩ :=
      ⟨⟨sl2, p4, ox, hf65, hs65, .inr ⟨2, by decide, rbad hrep.symm, h65⟩⟩, by rw [h65.pos, h15.pos]; have := h65.hp; omega⟩
    exact ⟨fun _ => ⟨_, h65.c4, fun hh => (by simp at hh), fun _ => done⟩, fun _ => done⟩
  have e3 : IntKind.i64.wrap ((k : Int) + 1) = ((k + 1 : Nat) : Int) := by rw [wrap_i64 (by omega) (by omega)]; omega
  have hcl := InfM.copy_length back k out'
  have hcs := InfM.copy_succ back k out'
  refine ⟨fun hlt => ⟨_, h65.c4, fun _ w67 d67 => ?_, fun hh => (by simp at hh)⟩, fun hge => ?_⟩
  · have hlt := of_decide_eq_true hlt
    have h67 := h65.drew d67
    have hlen := h67.len
    have eidx : IntKind.i64.wrap ((sl2.len : Int) - (back : Int)) = ((out'.length + k - back : Nat) : Int) := by
      rw [hlen, hcl, wrap_i64 (by omega) (by omega)]; omega
    refine ⟨fun w' => w' = w67, rfl, sl2, fun w' hw => hw ▸ h67.c2, sl2, fun w' hw => hw ▸ h67.c2, ?_⟩
    rw [eidx, e3]
    refine ⟨⟨by omega, by rw [hlen, hcl]; omega⟩, ?_⟩
    rw [hcl] at hcs
    generalize hcc : InfM.copy back k out' = cur at hcl hcs h65 h67 hlen
    have hlt2 : out'.length + k - back < cur.length := by omega
    obtain ⟨ax, hax, hcx⟩ := h67.own.reads _ _ (show (byteV cur)[out'.length + k - back]? = some (.int .u8 ((cur[out'.length + k - back]'hlt2).toNat : Int)) by simp [byteV, hlt2])
    refine ⟨ax, hax, _, fun w' hw => (by rw [hw, Int.toNat_natCast, Nat.mul_one]; exact hcx), ?_⟩
    refine (sput h67 (cur[out'.length + k - back]'hlt2).toNat_lt hm).mono ?_
    rintro e w77 ⟨rfl, hf77, hres⟩
    have hf77' := outs (hf65.trans' (.drew _ d67)) hs65 hf77
    rcases hres with ⟨hfull, h77⟩ | ⟨hroom, sl3, h77, hsn⟩
    · exact ⟨rfl, ⟨hf77', sl2, hs65, .inr ⟨by omega, _, h77⟩⟩, by dsimp only; omega⟩
    · have hg : cur.getD (out'.length + k - back) 0 = cur[out'.length + k - back]'hlt2 := by simp [List.getD, hlt2]
      rw [UInt8.ofNat_toNat, ← hg, ← hcs] at h77
      exact ⟨rfl, ⟨hf77', sl3, hs65.trans hsn (hf65.trans' (.drew _ d67)).size, .inl ⟨k + 1, rfl, by omega, by omega, h77⟩⟩, by dsimp only; omega⟩
  · have hge := of_decide_eq_false hge
    have hkn : k = n := by omega
    subst hkn
    rw [if_neg (show ¬ most < out'.length + k by omega)] at hrep
    rw [← hrep] at hr
    exact ⟨⟨sl2, p4, _, hf65, hs65, .inl ⟨h65, by omega, g, by omega, hr⟩⟩, by dsimp only; rw [h65.pos, h15.pos]; have := h65.hp; omega⟩
end Go.Proofs.Ytofejgaanpaieaa
namespace Go.Proofs.Ytofejgaanpaieaa
open Go Vc BitsM HuffM Go.Proofs

theorem sfail_any {w : World} {base b : Nat} {bl0 sl : Sl} {B : List Bool} {p : Nat} {out : List UInt8} {most er : Nat} (h : RS w base b bl0 sl B p out most er) (x : Nat) :
    Calls Try.prog F_cartularyref05_Stream_fail #[.pointer (some ⟨b, 0, none⟩), .int .i64 (x : Int)] w fun e w' => e = .returned (.tuple #[]) ∧ RS w' base b bl0 sl B p out most (if er = 0 then x else er) ∧ Fr (· = b) w w' := by
  by_cases he : er = 0
  · subst he
    rw [if_pos rfl]
    exact fail_spec h x
  · rw [if_neg he]
    refine (fail_idle h he x).mono ?_
    rintro e w' ⟨rfl, hw⟩
    replace hw := hw.symm
    subst hw
    exact ⟨rfl, h, .refl _ _⟩
theorem snum_g {w : World} {base b : Nat} {bl0 sl : Sl} {B : List Bool} {p : Nat} {out : List UInt8} {most er : Nat} (h : RS w base b bl0 sl B p out most er) {n : Nat} (hn : n ≤ 16) (hin : er = 0 → p + n ≤ B.length) :
    Calls Try.prog F_cartularyref05_Stream_number #[.pointer (some ⟨b, 0, none⟩), .int .i64 (n : Int)] w fun e w' => ∃ v p' : Nat, e = .returned (.int .i64 (v : Int)) ∧ v < 2 ^ n ∧ RS w' base b bl0 sl B p' out most er ∧ Fr (· = b) w w' ∧
      (er = 0 → v = num ((B.drop p).take n) ∧ p' = p + n) := by
  by_cases he : er = 0
  · subst he
    refine (snumber_spec h hn).mono ?_
    rintro e w' ⟨hf, ⟨v, p', ht, rfl, h'⟩ | ⟨ht, rfl, h'⟩⟩
    · obtain ⟨_, h2, h3, h4⟩ := take_ok ht
      exact ⟨v, p', rfl, h4, h', hf, fun _ => ⟨h2, h3⟩⟩
    · have := (take_err ht).1
      have := hin rfl
      omega
  · refine (number_idle h he n).mono ?_
    rintro e w' ⟨rfl, hw⟩
    replace hw := hw.symm
    subst hw
    exact ⟨0, p, rfl, Nat.two_pow_pos _, h, .refl _ _, fun hh => absurd hh he⟩
theorem num_three (L : List Bool) (h : 14 ≤ L.length) : num (L.take 14) = num (L.take 5) + 32 * num ((L.drop 5).take 5) + 1024 * num ((L.drop 10).take 4) := by
  have h1 : L.take 14 = L.take 5 ++ ((L.drop 5).take 5 ++ (L.drop 10).take 4) := by
    rw [show 14 = 5 + 9 from rfl, List.take_add, show 9 = 5 + 4 from rfl, List.take_add, List.drop_drop]
  rw [h1, num_append, num_append, List.length_take, List.length_take, List.length_drop, show min 5 L.length = 5 by omega, show min 5 (L.length - 5) = 5 by omega]
  omega
/-- What the reading of the tables leaves. -/
def DRes (w w' : World) (base b : Nat) (bl0 sl : Sl) (B : List Bool) (out : List UInt8) (most : Nat) (r : InfM.E (List Nat × List Nat)) (v : Value) : Prop :=
  Fr (· = b) w w' ∧ ∃ l d : Sl, v = .tuple #[slv l, slv d] ∧ ((∃ lit dist p', r = .ok ((lit, dist), p') ∧ RS w' base b bl0 sl B p' out most 0 ∧ Reads w' l.a (nv lit) ∧ lit.length = l.len ∧ Reads w' d.a (nv dist) ∧ dist.length = d.len ∧ InfM.chkN lit = 0 ∧ InfM.chkN dist = 0 ∧ lit.length ≤ 400 ∧ dist.length ≤ 400) ∨
    (∃ er p', er ≠ 0 ∧ r = .error er ∧ RS w' base b bl0 sl B p' out most er))
theorem RS.err {w : World} {base b : Nat} {bl0 sl : Sl} {B : List Bool} {p : Nat} {out : List UInt8} {most er : Nat} (h : RS w base b bl0 sl B p out most er) : cellNat w ⟨b, 4, none⟩ = er := by
  unfold cellNat
  rw [h.c4]; simp
/-- The codes of lengths, one more read. -/
theorem clens_step {cl : List Nat} {tot : Nat} {B : List Bool} {f p p1 s : Nat} {xs : List Nat} (hx : xs.length < tot) (hs : InfM.sym cl B p = .ok (s, p1)) :
    InfM.clens cl tot B (f + 1) p xs = (if s < 16 then (if tot < xs.length + 1 then .error 3 else InfM.clens cl tot B f p1 (xs ++ List.replicate 1 s)) else if s = 16 ∧ xs = [] then .error 3 else
      match InfM.take B (if s = 16 then 2 else if s = 17 then 3 else 7) p1 with
      | .error e => .error e
      | .ok (n, p2) => (if tot < xs.length + ((if s = 16 ∨ s = 17 then 3 else 11) + n) then .error 3 else InfM.clens cl tot B f p2 (xs ++ List.replicate ((if s = 16 ∨ s = 17 then 3 else 11) + n) (if s = 16 then xs.getLastD 0 else 0)))) := by
  rw [InfM.clens, if_neg (by omega), hs]
  dsimp only
  by_cases h16 : s < 16
  · rw [if_pos h16, if_pos h16, if_neg (by omega)]; rfl
  · rw [if_neg h16, if_neg h16]
    by_cases h0 : s = 16 ∧ xs = []
    · rw [if_pos h0, if_pos h0]
    · rw [if_neg h0, if_neg h0]
      split <;> rename_i he <;> rw [he]
/-- 'dynamic'. -/
theorem sdynamic_spec {w : World} {base b : Nat} {bl0 sl : Sl} {B : List Bool} {p : Nat} {out : List UInt8} {most : Nat} (h : RS w base b bl0 sl B p out most 0) :
    Calls Try.prog F_cartularyref05_Stream_dynamic #[.pointer (some ⟨b, 0, none⟩)] w fun e w' => ∃ v, e = .returned v ∧ DRes w w' base b bl0 sl B out most (InfM.tables B p) v := by
  refine vc_cartularyref05_Stream_dynamic_ok (R := fun v w' => DRes w w' base b bl0 sl B out most (InfM.tables B p) v) ?_ (fun v w' h => ⟨v, rfl, h⟩)
  have hsm := h.small
  have hp := h.hp
  have hbl := h.blen
  obtain ⟨hbw, hslw⟩ := h.lts
  generalize hT : InfM.tables B p = T
  have keepRS : ∀ {w1 w2 : World} {px er : Nat} {Y : Nat → Prop}, RS w1 base b bl0 sl B px out most er → Fr Y w1 w2 → (∀ k, Y k → w.heap.size ≤ k) → RS w2 base b bl0 sl B px out most er := fun hx hf hY =>
    hx.keep hf (fun hh => by have := hY _ hh; omega) (fun x hx2 hh => by have := hY _ hh; have := (h.hbits x hx2).1; have := h.hbase; omega) (fun y hy hh => by have := hY _ hh; have := hslw y hy; omega)
  have far : ∀ {w1 w2 : World} {Y : Nat → Prop}, Fr (· = b) w w1 → Fr Y w1 w2 → (∀ k, Y k → k = b ∨ w.heap.size ≤ k) → Fr (· = b) w w2 := fun h1 h2 hY => h1.trans h2 fun k hk hh => by
    rcases hY k hh with hh | hh
    · exact hh
    · omega
  have bad : ∀ {w' : World} {px er : Nat}, Fr (· = b) w w' → RS w' base b bl0 sl B px out most er → er ≠ 0 → T = .error er → DRes w w' base b bl0 sl B out most T (.tuple #[.slice none 0 0, .slice none 0 0]) := fun hf hx he hT' =>
    ⟨hf, ⟨none, 0, 0⟩, ⟨none, 0, 0⟩, rfl, .inr ⟨_, _, he, hT', hx⟩⟩
  -- the fourteen bits
  refine ⟨fun w' => Fr (· = b) w w' ∧ ∃ er, RS w' base b bl0 sl B p out most er ∧ ((er = 0 ∧ p + 14 ≤ B.length) ∨ (er = 6 ∧ B.length < p + 14)), ⟨_, h.c4, fun _ => ⟨bl0, by rw [cell_blk h.blk]; rfl, (p : Int), by rw [cell_blk h.blk]; rfl, fun w5 d5 => ?_⟩, fun hh => (by simp at hh)⟩, ?_⟩
  · have e1 : IntKind.i64.wrap ((bl0.len : Int) - (p : Int)) = ((B.length - p : Nat) : Int) := by rw [wrap_i64 (by omega) (by omega)]; omega
    rw [e1]
    refine ⟨fun hlt => ?_, fun hge => ?_⟩
    · have hlt := of_decide_eq_true hlt
      refine (fail_spec (h.drew d5) 6).mono ?_
      rintro e w7 ⟨rfl, h7, hf7⟩
      exact ⟨rfl, (Fr.drew _ d5).trans' hf7, 6, h7, .inr ⟨rfl, by omega⟩⟩
    · have hge := of_decide_eq_false hge
      exact ⟨.drew _ d5, 0, h.drew d5, .inl ⟨rfl, by omega⟩⟩
  rintro w9 ⟨hf9, er, h9, hcase⟩
  refine (snum_g h9 (n := 5) (by omega) (by omega)).mono ?_
  rintro e w11 ⟨v1, p1, rfl, hv1, h11, hf11, g1⟩
  refine ⟨_, rfl, (snum_g h11 (n := 5) (by omega) (by omega)).mono ?_⟩
  rintro e w14 ⟨v2, p2, rfl, hv2, h14, hf14, g2⟩
  refine ⟨_, rfl, (snum_g h14 (n := 4) (by omega) (by omega)).mono ?_⟩
  rintro e w17 ⟨v3, p3, rfl, hv3, h17, hf17, g3⟩
  have hf17' := ((hf9.trans' hf11).trans' hf14).trans' hf17
  have hT6 : er ≠ 0 → T = .error er := fun he => by
    rcases hcase with ⟨h0, _⟩ | ⟨h6, hlt⟩
    · exact absurd h0 he
    · rw [← hT, h6]
      exact InfM.tables_err (by unfold InfM.take; rw [if_neg (by omega)])
  have hT0 : er = 0 → p3 = p + 14 ∧ T = InfM.tabs1 B (v1 + 257) (v2 + 1) (v3 + 4) p3 := fun he => by
    obtain ⟨a1, a2⟩ := g1 he
    obtain ⟨b1, b2⟩ := g2 he
    obtain ⟨c1, c2⟩ := g3 he
    have hlen : p + 14 ≤ B.length := by omega
    have hn := num_three (B.drop p) (by rw [List.length_drop]; omega)
    rw [List.drop_drop, List.drop_drop, ← a1, ← a2, ← b1, show p + 10 = p2 by omega, ← c1] at hn
    have htk : InfM.take B 14 p = .ok (v1 + 32 * v2 + 1024 * v3, p + 14) := by unfold InfM.take; rw [if_pos hlen, hn]
    rw [← hT, InfM.tables_ok htk, show (v1 + 32 * v2 + 1024 * v3) % 32 = v1 by omega, show (v1 + 32 * v2 + 1024 * v3) / 32 % 32 = v2 by omega, show (v1 + 32 * v2 + 1024 * v3) / 1024 = v3 by omega, show p3 = p + 14 by omega]
    exact ⟨rfl, rfl⟩
  have hv1' : v1 < 32 := hv1
  have hv2' : v2 < 32 := hv2
  have hv3' : v3 < 16 := hv3
  have enl : IntKind.i64.wrap ((v1 : Int) + 257) = ((v1 + 257 : Nat) : Int) := by rw [wrap_i64 (by omega) (by omega)]; omega
  have end_ : IntKind.i64.wrap ((v2 : Int) + 1) = ((v2 + 1 : Nat) : Int) := by rw [wrap_i64 (by omega) (by omega)]; omega
  have enc : IntKind.i64.wrap ((v3 : Int) + 4) = ((v3 + 4 : Nat) : Int) := by rw [wrap_i64 (by omega) (by omega)]; omega
  refine ⟨_, rfl, ?_⟩
  rw [enl, end_, enc]
  have hnl1 : 257 ≤ v1 + 257 := by omega
  have hnl2 : v1 + 257 ≤ 288 := by omega
  have hnd1 : 1 ≤ v2 + 1 := by omega
  have hnd2 : v2 + 1 ≤ 32 := by omega
  have hnc : v3 + 4 ≤ 19 := by omega
  clear enl end_ enc g1 g2 g3 hv1 hv2 hv3
  generalize v1 + 257 = nl at *
  generalize v2 + 1 = nd at *
  generalize v3 + 4 = nc at *
  have etot : IntKind.i64.wrap ((nl : Int) + (nd : Int)) = ((nl + nd : Nat) : Int) := by rw [wrap_i64 (by omega) (by omega)]; omega
  rw [etot]
  refine ⟨fun w' => Fr (· = b) w w' ∧ ∃ er' px, RS w' base b bl0 sl B px out most er' ∧ ((er' = 0 ∧ px = p3 ∧ T = InfM.tabs1 B nl nd nc p3 ∧ nl ≤ 286 ∧ nd ≤ 30) ∨ (er' ≠ 0 ∧ T = .error er')), ⟨fun hgt => ?_, fun hle => ⟨fun hgt => ?_, fun hle2 => ?_⟩⟩, ?_⟩
  · have hgt := of_decide_eq_true hgt
    refine (sfail_any h17 3).mono ?_
    rintro e w21 ⟨rfl, h21, hf21⟩
    refine ⟨rfl, hf17'.trans' hf21, _, _, h21, .inr ?_⟩
    by_cases he : er = 0
    · rw [if_pos he]
      exact ⟨by decide, by rw [(hT0 he).2, InfM.tabs1, if_pos (by omega)]⟩
    · rw [if_neg he]; exact ⟨he, hT6 he⟩
  · have hgt := of_decide_eq_true hgt
    refine (sfail_any h17 3).mono ?_
    rintro e w23 ⟨rfl, h23, hf23⟩
    refine ⟨rfl, hf17'.trans' hf23, _, _, h23, .inr ?_⟩
    by_cases he : er = 0
    · rw [if_pos he]
      exact ⟨by decide, by rw [(hT0 he).2, InfM.tabs1, if_pos (by omega)]⟩
    · rw [if_neg he]; exact ⟨he, hT6 he⟩
  · have hle := of_decide_eq_false hle
    have hle2 := of_decide_eq_false hle2
    refine ⟨hf17', er, p3, h17, ?_⟩
    by_cases he : er = 0
    · exact .inl ⟨he, rfl, (hT0 he).2, by omega, by omega⟩
    · exact .inr ⟨he, hT6 he⟩
  rintro w24 ⟨hf24, er4, px4, h24, hcase4⟩
  clear hT0 hT6 hcase h9 h11 h14 h17 hf9 hf11 hf14 hf17 hf17'
  obtain ⟨w25, hr25, ho25, hf25⟩ := make_ints (w := w24) (n := 19) (by omega) (Nat.le_refl _)
  have h25 := keepRS h24 hf25 (fun _ hh => hh.elim)
  refine ⟨w25, ⟨_, _, _⟩, hr25, fun w27 h27w => ?_⟩
  have hf27 : Fr (fun _ => False) w25 w27 := h27w ▸ Fr.alloc _ _ _
  have hpl0 : w27.heap[w25.heap.size]? = some (.cells (nv InfM.places).toArray T_int (0, 0)) := by rw [h27w]; exact alloc_new _ _
  have hs24 := hf24.size
  have hs25 := hf25.size
  have hs27 : w27.heap.size = w25.heap.size + 1 := by rw [h27w]; exact Array.size_push ..
  have hg25 : w24.heap.size < w25.heap.size := (ho25.blk rfl).2
  have h27 := keepRS h25 hf27 (fun _ hh => hh.elim)
  have ho27 := ho25.keep hf27 (by simp)
  have hf27' : Fr (· = b) w w27 := far (far hf24 hf25 (fun _ hh => hh.elim)) hf27 (fun _ hh => hh.elim)
  generalize hG : w24.heap.size = G at *
  generalize hP : w25.heap.size = P at *
  have hplen : (InfM.places.take nc).length = nc := by rw [List.length_take]; have : InfM.places.length = 19 := rfl; omega
  -- the first lengths
  refine ⟨fun w' => Fr (· = b) w w' ∧ P < w'.heap.size ∧ ∃ er' px l', RS w' base b bl0 sl B px out most er' ∧ Own w' G T_int ⟨some ⟨G, 0, none⟩, 19, 19⟩ (nv l') ∧ l'.length = 19 ∧ ((er' = 0 ∧ T = InfM.tabs2 B nl nd px l' ∧ nl ≤ 286 ∧ nd ≤ 30) ∨ (er' ≠ 0 ∧ T = .error er')), ?_, ?_⟩
  · refine ⟨fun i w' => Fr (· = b) w w' ∧ P < w'.heap.size ∧ w'.heap[P]? = some (.cells (nv InfM.places).toArray T_int (0, 0)) ∧ ∃ er' px l', RS w' base b bl0 sl B px out most er' ∧ Own w' G T_int ⟨some ⟨G, 0, none⟩, 19, 19⟩ (nv l') ∧ l'.length = 19 ∧
        ((er' = 0 ∧ nl ≤ 286 ∧ nd ≤ 30 ∧ ∃ k : Nat, i = (k : Int) ∧ k ≤ nc ∧ T = (match InfM.firsts B ((InfM.places.take nc).drop k) px l' with | .error e => .error e | .ok (first, p) => InfM.tabs2 B nl nd p first)) ∨ (er' ≠ 0 ∧ T = .error er')), fun i _ => nc - i.toNat,
      ⟨hf27', by omega, hpl0, er4, px4, List.replicate 19 0, h27, ho27, by simp, hcase4.imp (fun ⟨h1, h2, h3, h4, h5⟩ => ⟨h1, h4, h5, 0, rfl, Nat.zero_le _, by rw [h3, InfM.tabs1, if_neg (by omega), h2]; rfl⟩) id⟩, ?_⟩
    rintro i w32 ⟨hf32, hP32, hpl32, er', px, l', h32, ho32, hl', ⟨rfl, hnl, hnd, k, rfl, hk, hinv⟩ | ⟨he, hTe⟩⟩
    rotate_left 1
    · have done : Fr (· = b) w w32 ∧ P < w32.heap.size ∧ ∃ er' px l', RS w32 base b bl0 sl B px out most er' ∧ Own w32 G T_int ⟨some ⟨G, 0, none⟩, 19, 19⟩ (nv l') ∧ l'.length = 19 ∧ ((er' = 0 ∧ T = InfM.tabs2 B nl nd px l' ∧ nl ≤ 286 ∧ nd ≤ 30) ∨ (er' ≠ 0 ∧ T = .error er')) := ⟨hf32, hP32, er', px, l', h32, ho32, hl', .inr ⟨he, hTe⟩⟩
      exact ⟨fun _ => ⟨_, h32.c4, fun hh => (he (by simpa using hh)).elim, fun _ => done⟩, fun _ => done⟩
    have e3 : IntKind.i64.wrap ((k : Int) + 1) = ((k + 1 : Nat) : Int) := by rw [wrap_i64 (by omega) (by omega)]; omega
    refine ⟨fun hlt => ⟨_, h32.c4, fun _ w34 d34 => ?_, fun hh => (by simp at hh)⟩, fun hge => ?_⟩
    · have hlt := of_decide_eq_true hlt
      have hkn : k < (InfM.places.take nc).length := by omega
      rw [List.drop_eq_getElem_cons hkn] at hinv
      have hpk : (InfM.places.take nc)[k] = InfM.places.getD k 0 := by
        rw [List.getElem_take, List.getD_eq_getElem?_getD, List.getElem?_eq_getElem (by have : InfM.places.length = 19 := rfl; omega)]; rfl
      have hp19 : InfM.places.getD k 0 < 19 := by
        have : ∀ k, k < 19 → InfM.places.getD k 0 < 19 := by decide
        exact this k (by omega)
      have hpg : (nv InfM.places)[k]? = some (.int .i64 ((InfM.places.getD k 0 : Nat) : Int)) := by
        have hk19 : k < InfM.places.length := by have : InfM.places.length = 19 := rfl; omega
        rw [List.getD_eq_getElem?_getD, List.getElem?_eq_getElem hk19]
        exact nv_get (List.getElem?_eq_getElem hk19)
      rw [hpk, InfM.firsts] at hinv
      have h34 := h32.drew d34
      have hpl34 := (Fr.drew (fun _ => False) d34).keep hpl32 (by simp)
      refine ⟨fun w' => w'.heap[P]? = w34.heap[P]?, rfl, ⟨by omega, by omega⟩, _, rfl, ((InfM.places.getD k 0 : Nat) : Int), fun w' hw' => ?_, ?_⟩
      · rw [Int.toNat_natCast, Nat.mul_one, add_lit, cell_blk (hw'.trans hpl34), Nat.zero_add]
        simpa using hpg
      generalize InfM.places.getD k 0 = pk at hinv hp19 ⊢
      have hPb : P ≠ b := by omega
      have ho34 := ho32.drew d34
      have hf34 : Fr (· = b) w w34 := hf32.trans' (.drew _ d34)
      rw [e3]
      refine (snumber_spec h34 (n := 3) (by omega)).mono ?_
      rintro e w40 ⟨hf40, hres⟩
      have hpl40 : w40.heap[P]? = w34.heap[P]? := by rw [hpl34]; exact hf40.keep hpl34 hPb
      have ho40 := ho34.keep hf40 (fun y hy e => by cases hy; dsimp only at e; omega)
      have hs40 := hf40.size
      have hs34 := (Fr.drew (fun _ => False) d34).size
      obtain ⟨a, ha, hc, hw, hset⟩ := ho40.set (i := pk) (by rw [List.length_map]; omega)
      have hstore : ∀ x : Nat, Own (w40.setCell (a.add pk) (.int .i64 (x : Int))) G T_int ⟨some ⟨G, 0, none⟩, 19, 19⟩ (nv (l'.set pk x)) ∧ Fr (fun k => k = G) w40 (w40.setCell (a.add pk) (.int .i64 (x : Int))) := fun x => by
        obtain ⟨h1, h2⟩ := hset (.int .i64 (x : Int))
        rw [show (nv l').set pk (.int .i64 (x : Int)) = nv (l'.set pk x) by simp [nv, List.map_set]] at h1
        exact ⟨h1, h2.mono fun k _ ⟨y, hy, e⟩ => by cases hy; exact e⟩
      rcases hres with ⟨x, p14, htk', rfl, h40⟩ | ⟨htk', rfl, h40⟩
      · rw [htk'] at hinv
        dsimp only at hinv
        refine ⟨_, rfl, hpl40, ⟨by omega, by dsimp only; omega⟩, a, ha, ?_⟩
        rw [Int.toNat_natCast, Nat.mul_one]
        refine ⟨hw, ?_⟩
        rintro w43 rfl
        obtain ⟨ho43, hf43⟩ := hstore x
        have hs43 := hf43.size
        exact ⟨⟨far (far hf34 hf40 (fun _ hh => .inl hh)) hf43 (fun k hh => .inr (by omega)), by omega, hf43.keep (hpl40.trans hpl34) (by omega), 0, p14, _, keepRS h40 hf43 (fun k hh => by omega), ho43, by rw [List.length_set]; exact hl', .inl ⟨rfl, hnl, hnd, k + 1, rfl, by omega, hinv⟩⟩, by dsimp only; omega⟩
      · rw [htk'] at hinv
        dsimp only at hinv
        refine ⟨_, rfl, hpl40, ⟨by omega, by dsimp only; omega⟩, a, ha, ?_⟩
        rw [Int.toNat_natCast, Nat.mul_one]
        refine ⟨hw, ?_⟩
        rintro w43 rfl
        obtain ⟨ho43, hf43⟩ := hstore 0
        have hs43 := hf43.size
        exact ⟨⟨far (far hf34 hf40 (fun _ hh => .inl hh)) hf43 (fun k hh => .inr (by omega)), Nat.lt_of_lt_of_le (by omega) hs43, hf43.keep (hpl40.trans hpl34) (by omega), 6, _, _, keepRS h40 hf43 (fun k hh => by omega), ho43, by rw [List.length_set]; exact hl', .inr ⟨by decide, hinv⟩⟩, by dsimp only; omega⟩
    · have hge := of_decide_eq_false hge
      have hkk : k = nc := by omega
      subst hkk
      rw [List.drop_of_length_le (by omega), InfM.firsts] at hinv
      exact ⟨hf32, hP32, 0, px, l', h32, ho32, hl', .inl ⟨rfl, hinv, hnl, hnd⟩⟩
  rintro w44 ⟨hf44, hP44, er', px, l', h44, ho44, hl', hcase44⟩
  have hchk : InfM.chkN l' = chk (l'.map Int.ofNat) := rfl
  refine ⟨fun w' => Fr (· = b) w w' ∧ P < w'.heap.size ∧ ∃ er', RS w' base b bl0 sl B px out most er' ∧ Own w' G T_int ⟨some ⟨G, 0, none⟩, 19, 19⟩ (nv l') ∧ ((er' = 0 ∧ T = InfM.tabs2 B nl nd px l' ∧ InfM.chkN l' = 0 ∧ nl ≤ 286 ∧ nd ≤ 30) ∨ (er' ≠ 0 ∧ T = .error er')), ?_, ?_⟩
  · rcases hcase44 with ⟨rfl, hT2, hnl, hnd⟩ | ⟨he, hTe⟩
    · refine ⟨_, h44.c4, fun _ => ?_, fun hh => (by simp at hh)⟩
      have hoi := ho44
      rw [← iv_ofNat] at hoi
      refine (check_spec hoi.reads (n := 19) (by rw [List.length_map, hl'])).mono ?_
      rintro e w48 ⟨rfl, hw⟩
      replace hw := hw.symm
      subst hw
      rw [← hchk]
      refine ⟨_, rfl, fun hne => ?_, fun heq => ?_⟩
      · have hne : InfM.chkN l' ≠ 0 := by simpa using hne
        refine (fail_spec h44 3).mono ?_
        rintro e w51 ⟨rfl, h51, hf51⟩
        have hs51 := hf51.size
        exact ⟨rfl, hf44.trans' hf51, by omega, 3, h51, ho44.keep hf51 (fun y hy e => by cases hy; dsimp only at e; omega), .inr ⟨by decide, by rw [hT2, InfM.tabs2, if_pos hne]⟩⟩
      · have heq : InfM.chkN l' = 0 := by simpa using heq
        exact ⟨hf44, hP44, 0, h44, ho44, .inl ⟨rfl, hT2, heq, hnl, hnd⟩⟩
    · exact ⟨_, h44.c4, fun hh => (he (by simpa using hh)).elim, fun _ => ⟨hf44, hP44, er', h44, ho44, .inr ⟨he, hTe⟩⟩⟩
  clear hcase44 h44 ho44 hf44 hP44
  rintro w52 ⟨hf52, hP52, er2, h52, ho52, ⟨rfl, hT2, hchk0, hnl, hnd⟩ | ⟨he, hTe⟩⟩
  rotate_left 1
  · exact ⟨_, h52.c4, fun _ => bad hf52 h52 he hTe, fun hh => (he (by simpa using hh)).elim⟩
  rw [InfM.tabs2, if_neg (by omega)] at hT2
  refine ⟨_, h52.c4, fun hh => (by simp at hh), fun _ => ?_⟩
  have hlf := InfM.chk_fits hchk0
  refine (codes_spec ho52.reads (n := 19) hl' hlf (by omega)).mono ?_
  rintro e w55 ⟨o, rfl, hc55, hf55⟩
  refine ⟨o, rfl, fun w57 h57w => ?_⟩
  have h55 := keepRS h52 hf55 (fun _ hh => hh.elim)
  have hf57 : Fr (fun _ => False) w55 w57 := h57w ▸ Fr.alloc _ _ _
  have h57 := keepRS h55 hf57 (fun _ hh => hh.elim)
  have hs52 := hf52.size
  have hs55 := hf55.size
  have hc57 := hc55.keep hf57 (by simp) (by simp)
  have hf57' : Fr (· = b) w w57 := far (far hf52 hf55 (fun _ hh => hh.elim)) hf57 (fun _ hh => hh.elim)
  have ho57 : Own w57 w55.heap.size T_int ⟨some ⟨w55.heap.size, 0, none⟩, 0, 0⟩ [] := h57w ▸ own_empty w55 T_int
  have hob := hc55.oblk
  generalize hlo : w52.heap.size = lo at *
  generalize hhi : w55.heap.size = H at *
  obtain ⟨tot, htot⟩ : ∃ tot, nl + nd = tot := ⟨_, rfl⟩
  rw [htot] at hT2 ⊢
  generalize hCL : InfM.clens l' tot B (tot + 1) px [] = CL at hT2
  have tbad : ∀ {e : Nat}, CL = .error e → T = .error e := fun hx => by rw [hx] at hT2; exact hT2
  have kc : ∀ {w1 w2 : World} {Y : Nat → Prop}, BitRows w1 lo lo H o ((List.range l'.length).map (cbits l')) → Fr Y w1 w2 → (∀ k, Y k → k = b ∨ H ≤ k) → BitRows w2 lo lo H o ((List.range l'.length).map (cbits l')) := fun hb hf hY =>
    hb.keep hf (fun x hx hh => by have := hY _ hh; have := hob x hx; omega) (fun k h1 h2 hh => by have := hY _ hh; omega)
  -- the lengths of the codes
  refine ⟨fun l w' => Fr (· = b) w w' ∧ ((∃ q xs, CL = .ok (xs, q) ∧ xs.length = tot ∧ RS w' base b bl0 sl B q out most 0 ∧ Own w' H T_int l (nv xs)) ∨ (∃ er q, er ≠ 0 ∧ CL = .error er ∧ RS w' base b bl0 sl B q out most er)), ?_, ?_⟩
  · refine ⟨fun l w' => Fr (· = b) w w' ∧ H ≤ w'.heap.size ∧ ((∃ (q : Nat) (xs : List Nat) (f : Nat), CL = InfM.clens l' tot B f q xs ∧ tot + 1 ≤ f + xs.length ∧ xs.length ≤ tot ∧ RS w' base b bl0 sl B q out most 0 ∧ Own w' H T_int l (nv xs) ∧ BitRows w' lo lo H o ((List.range l'.length).map (cbits l'))) ∨ (∃ er q, er ≠ 0 ∧ CL = .error er ∧ RS w' base b bl0 sl B q out most er)),
      fun l w' => 2 * (tot - l.len) + (1 - cellNat w' ⟨b, 4, none⟩), ⟨hf57', by have := hf57.size; omega, .inl ⟨px, [], tot + 1, hCL.symm, by simp, Nat.zero_le _, h57, ho57, hc57⟩⟩, ?_⟩
    rintro l61 w62 ⟨hf62, hH62, ⟨q, xs, f, hcl, hfx, hxl, h62, ho62, hc62⟩ | ⟨er, q, he, hce, h62⟩⟩
    rotate_left 1
    · exact ⟨fun _ => ⟨_, h62.c4, fun hh => (he (by simpa using hh)).elim, fun _ => ⟨hf62, .inr ⟨er, q, he, hce, h62⟩⟩⟩, fun _ => ⟨hf62, .inr ⟨er, q, he, hce, h62⟩⟩⟩
    have hll : l61.len = xs.length := by rw [ho62.len, List.length_map]
    obtain ⟨f, rfl⟩ : ∃ g, f = g + 1 := ⟨f - 1, by omega⟩
    refine ⟨fun hlt => ⟨_, h62.c4, fun _ => ?_, fun hh => (by simp at hh)⟩, fun hge => ?_⟩
    rotate_left 1
    · have hge := of_decide_eq_false hge
      rw [InfM.clens, if_pos (by omega)] at hcl
      exact ⟨hf62, .inl ⟨q, xs, hcl, by omega, h62, ho62⟩⟩
    have hlt := of_decide_eq_true hlt
    have hxt : xs.length < tot := by omega
    refine (ssym_spec h62 hc62 hlf (by omega)).mono ?_
    rintro e w65 ⟨hf65, hres⟩
    have hf65' := hf62.trans' hf65
    have hs65 := hf65.size
    have ho65 := ho62.keep hf65 (fun y hy e => by have := (ho62.blk hy).1; omega)
    have hc65 := kc hc62 hf65 (fun _ hh => .inl hh)
    -- after an error nothing is appended
    have stuck : ∀ {w' : World} {er q : Nat} (t wh : Int), Fr (· = b) w w' → H ≤ w'.heap.size → RS w' base b bl0 sl B q out most er → er ≠ 0 → CL = .error er → Fr (· = b) w w' ∧ H ≤ w'.heap.size ∧ ((∃ (K what q2 : Nat), t = (K : Int) ∧ wh = (what : Int) ∧ 1 ≤ K ∧ K ≤ 200 ∧ RS w' base b bl0 sl B q2 out most 0 ∧ Own w' H T_int l61 (nv xs) ∧ BitRows w' lo lo H o ((List.range l'.length).map (cbits l')) ∧ CL = (if tot < xs.length + K then .error 3 else InfM.clens l' tot B f q2 (xs ++ List.replicate K what))) ∨ (∃ er q, er ≠ 0 ∧ CL = .error er ∧ RS w' base b bl0 sl B q out most er)) :=
      fun t wh hf hs hx he hc => ⟨hf, hs, .inr ⟨_, _, he, hc, hx⟩⟩
    obtain ⟨v, rfl, hv⟩ : ∃ v : Nat, e = .returned (.int .i64 (v : Int)) ∧ ((∃ q1, InfM.sym l' B q = .ok (v, q1) ∧ v < 19 ∧ RS w65 base b bl0 sl B q1 out most 0) ∨ (∃ er, er ≠ 0 ∧ v = 0 ∧ CL = .error er ∧ RS w65 base b bl0 sl B q out most er)) := by
      rcases hres with ⟨s, q1, hsy, rfl, hsl, hq1, h65⟩ | ⟨er, he, hsy, rfl, h65⟩
      · exact ⟨s, rfl, .inl ⟨q1, hsy, by omega, h65⟩⟩
      · rw [InfM.clens, if_neg (by omega), hsy] at hcl
        exact ⟨0, rfl, .inr ⟨er, he, rfl, hcl, h65⟩⟩
    refine ⟨_, rfl, fun t wh w' => Fr (· = b) w w' ∧ H ≤ w'.heap.size ∧ ((∃ (K what q2 : Nat), t = (K : Int) ∧ wh = (what : Int) ∧ 1 ≤ K ∧ K ≤ 200 ∧ RS w' base b bl0 sl B q2 out most 0 ∧ Own w' H T_int l61 (nv xs) ∧ BitRows w' lo lo H o ((List.range l'.length).map (cbits l')) ∧ CL = (if tot < xs.length + K then .error 3 else InfM.clens l' tot B f q2 (xs ++ List.replicate K what))) ∨ (∃ er q, er ≠ 0 ∧ CL = .error er ∧ RS w' base b bl0 sl B q out most er)), ?_, ?_⟩
    · rcases hv with ⟨q1, hsy, hsl, h65⟩ | ⟨er, he, rfl, hcl, h65⟩
      rotate_left 1
      · exact ⟨fun hh => (by simp at hh), fun _ => ⟨fun hh => (by simp at hh), fun _ => ⟨fun hh => (by simp at hh), fun _ => stuck _ _ hf65' (by omega) h65 he hcl⟩⟩⟩
      rw [clens_step hxt hsy] at hcl
      refine ⟨fun h16 => ?_, fun hn16 => ⟨fun h17 => ?_, fun hn17 => ⟨fun h18 => ?_, fun hn18 => ?_⟩⟩⟩
      · have h16 : v = 16 := by have := eq_of_beq h16; omega
        subst h16
        rw [if_neg (show ¬ 16 < 16 by omega)] at hcl
        refine ⟨fun h0 => ?_, fun hn0 => ?_⟩
        · have h0 : xs = [] := by
            have := eq_of_beq h0
            exact List.length_eq_zero_iff.1 (by omega)
          rw [if_pos ⟨rfl, h0⟩] at hcl
          refine (fail_spec h65 3).mono ?_
          rintro e w69 ⟨rfl, h69, hf69⟩
          exact ⟨rfl, bad (hf65'.trans' hf69) h69 (by decide) (tbad hcl)⟩
        · have hne : xs ≠ [] := fun hh => by rw [hll, hh] at hn0; simp at hn0
          have hpos : 0 < xs.length := List.length_pos_iff.2 hne
          rw [if_neg (fun hh => hne hh.2)] at hcl
          have e1 : IntKind.i64.wrap ((l61.len : Int) - 1) = ((xs.length - 1 : Nat) : Int) := by rw [hll, wrap_i64 (by omega) (by omega)]; omega
          rw [e1]
          obtain ⟨a, ha, hc⟩ := ho65.reads _ _ (show (nv xs)[xs.length - 1]? = some (.int .i64 ((xs.getLastD 0 : Nat) : Int)) by
            rw [nv, List.getElem?_map, List.getLastD_eq_getLast?, List.getLast?_eq_getElem?]
            rw [List.getElem?_eq_getElem (by omega)]; rfl)
          refine ⟨⟨by omega, by omega⟩, a, ha, _, by rw [Int.toNat_natCast, Nat.mul_one]; exact hc, ?_⟩
          refine (snumber_spec h65 (n := 2) (by omega)).mono ?_
          rintro e w73 ⟨hf73, ⟨m, q2, htk, rfl, h73⟩ | ⟨htk, rfl, h73⟩⟩
          · have hm := (take_ok htk).2.2.2
            have hs73 := hf73.size
            rw [show (if 16 = 16 then 2 else if 16 = 17 then 3 else 7) = 2 from rfl, htk] at hcl
            exact ⟨_, rfl, hf65'.trans' hf73, by omega, .inl ⟨3 + m, xs.getLastD 0, q2, by rw [wrap_i64 (by omega) (by omega)]; omega, rfl, by omega, by omega, h73, ho65.keep hf73 (fun y hy e => by have := (ho65.blk hy).1; omega), kc hc65 hf73 (fun _ hh => .inl hh), hcl⟩⟩
          · rw [show (if 16 = 16 then 2 else if 16 = 17 then 3 else 7) = 2 from rfl, htk] at hcl
            have hs73 := hf73.size
            exact ⟨_, rfl, stuck _ _ (hf65'.trans' hf73) (by omega) h73 (by decide) hcl⟩
      · have h17 : v = 17 := by have := eq_of_beq h17; omega
        subst h17
        rw [if_neg (show ¬ 17 < 16 by omega), if_neg (fun hh => by omega)] at hcl
        refine (snumber_spec h65 (n := 3) (by omega)).mono ?_
        rintro e w76 ⟨hf76, ⟨m, q2, htk, rfl, h76⟩ | ⟨htk, rfl, h76⟩⟩
        · have hm := (take_ok htk).2.2.2
          have hs76 := hf76.size
          rw [show (if 17 = 16 then 2 else if 17 = 17 then 3 else 7) = 3 from rfl, htk] at hcl
          exact ⟨_, rfl, hf65'.trans' hf76, by omega, .inl ⟨3 + m, 0, q2, by rw [wrap_i64 (by omega) (by omega)]; omega, rfl, by omega, by omega, h76, ho65.keep hf76 (fun y hy e => by have := (ho65.blk hy).1; omega), kc hc65 hf76 (fun _ hh => .inl hh), hcl⟩⟩
        · rw [show (if 17 = 16 then 2 else if 17 = 17 then 3 else 7) = 3 from rfl, htk] at hcl
          have hs76 := hf76.size
          exact ⟨_, rfl, stuck _ _ (hf65'.trans' hf76) (by omega) h76 (by decide) hcl⟩
      · have h18 : v = 18 := by have := eq_of_beq h18; omega
        subst h18
        rw [if_neg (show ¬ 18 < 16 by omega), if_neg (fun hh => by omega)] at hcl
        refine (snumber_spec h65 (n := 7) (by omega)).mono ?_
        rintro e w79 ⟨hf79, ⟨m, q2, htk, rfl, h79⟩ | ⟨htk, rfl, h79⟩⟩
        · have hm := (take_ok htk).2.2.2
          have hs79 := hf79.size
          rw [show (if 18 = 16 then 2 else if 18 = 17 then 3 else 7) = 7 from rfl, htk] at hcl
          exact ⟨_, rfl, hf65'.trans' hf79, by omega, .inl ⟨11 + m, 0, q2, by rw [wrap_i64 (by omega) (by omega)]; omega, rfl, by omega, by omega, h79, ho65.keep hf79 (fun y hy e => by have := (ho65.blk hy).1; omega), kc hc65 hf79 (fun _ hh => .inl hh), hcl⟩⟩
        · rw [show (if 18 = 16 then 2 else if 18 = 17 then 3 else 7) = 7 from rfl, htk] at hcl
          have hs79 := hf79.size
          exact ⟨_, rfl, stuck _ _ (hf65'.trans' hf79) (by omega) h79 (by decide) hcl⟩
      · have hs16 : v < 16 := by
          have h1 : v ≠ 16 := fun hh => by subst hh; simp at hn16
          have h2 : v ≠ 17 := fun hh => by subst hh; simp at hn17
          have h3 : v ≠ 18 := fun hh => by subst hh; simp at hn18
          omega
        rw [if_pos hs16] at hcl
        exact ⟨hf65', by omega, .inl ⟨1, v, q1, rfl, rfl, by omega, by omega, h65, ho65, hc65, hcl⟩⟩
    rintro t wh w83 ⟨hf83, hH83, hJ⟩
    refine ⟨fun w' => Fr (· = b) w w' ∧ H ≤ w'.heap.size ∧ ((∃ (K what q2 : Nat), t = (K : Int) ∧ wh = (what : Int) ∧ 1 ≤ K ∧ K ≤ 200 ∧ xs.length + K ≤ tot ∧ RS w' base b bl0 sl B q2 out most 0 ∧ Own w' H T_int l61 (nv xs) ∧ BitRows w' lo lo H o ((List.range l'.length).map (cbits l')) ∧ CL = InfM.clens l' tot B f q2 (xs ++ List.replicate K what)) ∨ (∃ er q, er ≠ 0 ∧ CL = .error er ∧ RS w' base b bl0 sl B q out most er)), ?_, ?_⟩
    · rcases hJ with ⟨K, what, q2, rfl, rfl, hK1, hK2, h83, ho83, hc83, hcl⟩ | ⟨er, q, he, hce, h83⟩
      · have ek : IntKind.i64.wrap ((l61.len : Int) + (K : Int)) = ((xs.length + K : Nat) : Int) := by rw [hll, wrap_i64 (by omega) (by omega)]; omega
        rw [ek]
        refine ⟨_, h83.c4, fun _ => ⟨fun hgt => ?_, fun hle => ?_⟩, fun hh => (by simp at hh)⟩
        · have hgt := of_decide_eq_true hgt
          rw [if_pos (by omega)] at hcl
          refine (fail_spec h83 3).mono ?_
          rintro e w87 ⟨rfl, h87, hf87⟩
          have := hf87.size
          exact ⟨rfl, hf83.trans' hf87, by omega, .inr ⟨3, _, by decide, hcl, h87⟩⟩
        · have hle := of_decide_eq_false hle
          rw [if_neg (by omega)] at hcl
          exact ⟨hf83, hH83, .inl ⟨K, what, q2, rfl, rfl, hK1, hK2, by omega, h83, ho83, hc83, hcl⟩⟩
      · exact ⟨_, h83.c4, fun hh => (he (by simpa using hh)).elim, fun _ => ⟨hf83, hH83, .inr ⟨er, q, he, hce, h83⟩⟩⟩
    rintro w88 ⟨hf88, hH88, hJ8⟩
    have herr62 := h62.err
    refine ⟨fun l i w' => Fr (· = b) w w' ∧ H ≤ w'.heap.size ∧ ((∃ (K what q2 k : Nat), t = (K : Int) ∧ wh = (what : Int) ∧ i = (k : Int) ∧ k ≤ K ∧ 1 ≤ K ∧ K ≤ 200 ∧ xs.length + K ≤ tot ∧ RS w' base b bl0 sl B q2 out most 0 ∧ Own w' H T_int l (nv (xs ++ List.replicate k what)) ∧ BitRows w' lo lo H o ((List.range l'.length).map (cbits l')) ∧ CL = InfM.clens l' tot B f q2 (xs ++ List.replicate K what)) ∨ (l61.len ≤ l.len ∧ ∃ er q, er ≠ 0 ∧ CL = .error er ∧ RS w' base b bl0 sl B q out most er)),
      fun _ i _ => (t - i).toNat, ⟨hf88, hH88, hJ8.imp (fun ⟨K, what, q2, g1, g2, g3, g4, g5, g6, g7, g8, g9⟩ => ⟨K, what, q2, 0, g1, g2, rfl, Nat.zero_le _, g3, g4, g5, g6, by simpa using g7, g8, g9⟩) (fun hh => ⟨Nat.le_refl _, hh⟩)⟩, ?_⟩
    rintro l91 i w93 ⟨hf93, hH93, ⟨K, what, q2, k, rfl, rfl, rfl, hk, hK1, hK2, hKt, h93, ho93, hc93, hcl⟩ | ⟨hlen, er, q, he, hce, h93⟩⟩
    rotate_left 1
    · have done : (Fr (· = b) w w93 ∧ H ≤ w93.heap.size ∧ ((∃ (q : Nat) (xs : List Nat) (f : Nat), CL = InfM.clens l' tot B f q xs ∧ tot + 1 ≤ f + xs.length ∧ xs.length ≤ tot ∧ RS w93 base b bl0 sl B q out most 0 ∧ Own w93 H T_int l91 (nv xs) ∧ BitRows w93 lo lo H o ((List.range l'.length).map (cbits l'))) ∨ (∃ er q, er ≠ 0 ∧ CL = .error er ∧ RS w93 base b bl0 sl B q out most er))) ∧
          2 * (tot - l91.len) + (1 - cellNat w93 ⟨b, 4, none⟩) < 2 * (tot - l61.len) + (1 - cellNat w62 ⟨b, 4, none⟩) :=
        ⟨⟨hf93, hH93, .inr ⟨er, q, he, hce, h93⟩⟩, by rw [h93.err, herr62]; omega⟩
      exact ⟨fun _ => ⟨_, h93.c4, fun hh => (he (by simpa using hh)).elim, fun _ => done⟩, fun _ => done⟩
    have e3 : IntKind.i64.wrap ((k : Int) + 1) = ((k + 1 : Nat) : Int) := by rw [wrap_i64 (by omega) (by omega)]; omega
    rw [e3]
    have hnl' : (nv (xs ++ List.replicate k what)).length = xs.length + k := by simp
    refine ⟨fun hlt => ⟨_, h93.c4, fun _ w95 h95 => ?_, fun hh => (by simp at hh)⟩, fun hge => ?_⟩
    · have hlt := of_decide_eq_true hlt
      obtain ⟨w96, l97, hr, ho96, hf96, _⟩ := append_one' elInt ho93 (v := .int .i64 (what : Int)) rfl (by rw [hnl']; unfold maxLen; omega) (by rw [hnl']; omega) hH93 h95
      rw [nv_snoc, List.append_assoc, ← List.replicate_succ'] at ho96
      have hY : ∀ k, At l91 k → H ≤ k := fun k ⟨y, hy, e⟩ => by have := (ho93.blk hy).1; omega
      have hs96 := hf96.size
      exact ⟨w96, l97, hr, ⟨far hf93 hf96 (fun k hh => .inr (by have := hY k hh; omega)), by omega, .inl ⟨K, what, q2, k + 1, rfl, rfl, rfl, by omega, hK1, hK2, hKt, keepRS h93 hf96 (fun k hh => by have := hY k hh; omega), ho96, kc hc93 hf96 (fun k hh => .inr (hY k hh)), hcl⟩⟩, by dsimp only; omega⟩
    · have hge := of_decide_eq_false hge
      have hkK : k = K := by omega
      subst hkK
      have hl91 : l91.len = xs.length + k := by rw [ho93.len, hnl']
      exact ⟨⟨hf93, hH93, .inl ⟨q2, _, f, hcl, by simp; omega, by simp; omega, h93, ho93, hc93⟩⟩, by dsimp only; rw [h93.err, herr62]; omega⟩
  rintro l98 w99 ⟨hf99, ⟨q, xs, hcl, hxt, h99, ho99⟩ | ⟨er, q, he, hce, h99⟩⟩
  rotate_left 1
  · exact ⟨_, h99.c4, fun _ => bad hf99 h99 he (tbad hce), fun hh => (he (by simpa using hh)).elim⟩
  rw [hcl] at hT2
  dsimp only at hT2
  have hll : l98.len = xs.length := by rw [ho99.len, List.length_map]
  have hcap := ho99.cap
  have hr1 : Reads w99 (subA l98.a l98.cap 0 1) (nv (xs.take nl)) := by
    have := ((ho99.reads).sub (cap := l98.cap) (by rw [List.length_map]; omega) 0).take nl
    simpa [nv, List.map_take] using this
  have hr2 : Reads w99 (subA l98.a l98.cap nl 1) (nv (xs.drop nl)) := by
    have := (ho99.reads).sub (cap := l98.cap) (by rw [List.length_map]; omega) nl
    simpa [nv, List.map_drop] using this
  obtain ⟨a, ha, hc⟩ := ho99.reads 256 (.int .i64 ((xs.getD 256 0 : Nat) : Int)) (by
    rw [nv, List.getElem?_map, List.getD_eq_getElem?_getD, List.getElem?_eq_getElem (by omega)]; rfl)
  have hc1 : InfM.chkN (xs.take nl) = chk ((xs.take nl).map Int.ofNat) := rfl
  have hc2 : InfM.chkN (xs.drop nl) = chk ((xs.drop nl).map Int.ofNat) := rfl
  rw [Int.toNat_natCast]
  refine ⟨_, h99.c4, fun hh => (by simp at hh), fun _ => ⟨⟨by decide, by omega⟩, a, ha, _, hc, fun h0 => ?_, fun hn0 => ?_⟩⟩
  · have h0 := eq_of_beq h0
    rw [if_pos (.inl (by omega))] at hT2
    refine (fail_spec h99 3).mono ?_
    rintro e w104 ⟨rfl, h104, hf104⟩
    exact ⟨rfl, bad (hf99.trans' hf104) h104 (by decide) hT2⟩
  have hn0 : xs.getD 256 0 ≠ 0 := fun hh => by rw [hh] at hn0; simp at hn0
  refine ⟨⟨by omega, by omega⟩, ?_⟩
  refine (check_spec (n := nl) (by rw [iv_ofNat]; exact hr1) (by simp; omega)).mono ?_
  rintro e w106 ⟨rfl, hw⟩
  replace hw := hw.symm
  subst hw
  rw [← hc1]
  refine ⟨_, rfl, fun h1 => ?_, fun hn1 => ?_⟩
  · have h1 : InfM.chkN (xs.take nl) ≠ 0 := by simpa using h1
    rw [if_pos (.inr (.inl h1))] at hT2
    refine (fail_spec h99 3).mono ?_
    rintro e w109 ⟨rfl, h109, hf109⟩
    exact ⟨rfl, bad (hf99.trans' hf109) h109 (by decide) hT2⟩
  have hn1 : InfM.chkN (xs.take nl) = 0 := by simpa using hn1
  refine ⟨⟨by omega, by omega⟩, ?_⟩
  refine (check_spec (n := l98.len - nl) (by rw [iv_ofNat]; exact hr2) (by simp; omega)).mono ?_
  rintro e w111 ⟨rfl, hw⟩
  replace hw := hw.symm
  subst hw
  rw [← hc2]
  refine ⟨_, rfl, fun h2 => ?_, fun hn2 => ?_⟩
  · have h2 : InfM.chkN (xs.drop nl) ≠ 0 := by simpa using h2
    rw [if_pos (.inr (.inr h2))] at hT2
    refine (fail_spec h99 3).mono ?_
    rintro e w114 ⟨rfl, h114, hf114⟩
    exact ⟨rfl, bad (hf99.trans' hf114) h114 (by decide) hT2⟩
  have hn2 : InfM.chkN (xs.drop nl) = 0 := by simpa using hn2
  rw [if_neg (fun hh => by rcases hh with hh | hh | hh <;> omega)] at hT2
  refine ⟨⟨by omega, by omega⟩, ⟨by omega, by omega⟩, fun w115 d115 => ?_⟩
  exact ⟨hf99.trans' (.drew _ d115), ⟨_, _, _⟩, ⟨_, _, _⟩, rfl, .inl ⟨_, _, q, hT2, h99.drew d115, hr1.keep (.drew (fun _ => False) d115) (by simp), by simp; omega, hr2.keep (.drew (fun _ => False) d115) (by simp), by simp; omega, hn1, hn2, by simp; omega, by simp; omega⟩⟩
end Go.Proofs.Ytofejgaanpaieaa
namespace Go.Proofs.Ytofejgaanpaieaa
open Go Vc BitsM HuffM Go.Proofs

theorem rinfl_spec (s : ByteArray) (hs : s.size ≤ 100000000) (at_ most : Int) (w : World) :
    Calls Try.prog F_cartularyref05_Inflate #[.string s, .int .i64 at_, .int .i64 most] w fun e w' => e = .returned (ans3 (InfM.inflate s.data.toList at_ most)) ∧ Fr (fun _ => False) w w' := by
  refine vc_cartularyref05_Inflate_ok (R := fun v w' => v = ans3 (InfM.inflate s.data.toList at_ most) ∧ Fr (fun _ => False) w w') ?_ (fun v w' h => ⟨by rw [h.1], h.2⟩)
  have hsl : (s.data.toList.length : Int) = (s.size : Int) := by simp
  have bad : (at_ < 0 ∨ (s.size : Int) < at_ ∨ most < 0 ∨ 65536 < most) → InfM.inflate s.data.toList at_ most = ([], 0, 1) := fun h => by
    unfold InfM.inflate; rw [hsl, if_pos h]
  refine ⟨fun h1 => ?_, fun h1 => ⟨fun h2 => ?_, fun h2 => ⟨fun h3 => ?_, fun h3 => ⟨fun h4 => ?_, fun h4 => ?_⟩⟩⟩⟩
  · rw [bad (.inl (of_decide_eq_true h1))]; exact ⟨rfl, .refl _ _⟩
  · rw [bad (.inr (.inl (of_decide_eq_true h2)))]; exact ⟨rfl, .refl _ _⟩
  · rw [bad (.inr (.inr (.inl (of_decide_eq_true h3))))]; exact ⟨rfl, .refl _ _⟩
  · rw [bad (.inr (.inr (.inr (of_decide_eq_true h4))))]; exact ⟨rfl, .refl _ _⟩
  have h1 := of_decide_eq_false h1
  have h2 := of_decide_eq_false h2
  have h3 := of_decide_eq_false h3
  have h4 := of_decide_eq_false h4
  obtain ⟨off, rfl⟩ : ∃ off : Nat, at_ = (off : Int) := ⟨at_.toNat, by omega⟩
  obtain ⟨mo, rfl⟩ : ∃ mo : Nat, most = (mo : Int) := ⟨most.toNat, by omega⟩
  have hmo : mo ≤ 65536 := by omega
  refine ⟨⟨by omega, by omega⟩, ?_⟩
  rw [Int.toNat_natCast]
  have hsub : (s.extract off s.size).data.toList = s.data.toList.drop off := by
    rw [extract_list, List.take_of_length_le (by simp)]
  have good : InfM.inflate s.data.toList off mo = match InfM.inf mo (sbits (s.extract off s.size).data.toList) with
      | .error e => ([], 0, e)
      | .ok (out, p) => (out, (p + 7) / 8, 0) := by
    unfold InfM.inflate
    rw [hsl, if_neg (by omega), Int.toNat_natCast, Int.toNat_natCast, hsub]
    rfl
  rw [good]
  have hesz : (s.extract off s.size).size ≤ 100000000 := by simp; omega
  generalize s.extract off s.size = t at hesz
  refine (bits_spec t (by omega) w).mono ?_
  rintro e w2 ⟨l3, rfl, hob, hf2⟩
  refine ⟨l3, rfl, fun w4 h4' => ?_⟩
  have hBl : (sbits t.data.toList).length = 8 * t.size := by rw [sbits_length]; simp
  generalize sbits t.data.toList = B at hob hBl
  have hs2 := hf2.size
  have hf4 : Fr (fun _ => False) w2 w4 := h4' ▸ Fr.alloc _ _ _
  have hs4 : w4.heap.size = w2.heap.size + 1 := by rw [h4']; exact Array.size_push ..
  generalize hb : w2.heap.size = b at *
  have hlb : ∀ x, l3.a = some x → x.block < b := fun x hx => by have := (hob.blk hx).2; omega
  have hst : RS w4 (b + 1) b l3 ⟨none, 0, 0⟩ B 0 [] mo 0 :=
    ⟨by rw [h4', ← hb]; exact alloc_new _ _, .nil _ _ _, (hob.keep hf4 (by simp)).reads, by rw [hob.len]; simp [bl], hob.cap, by omega, by omega, fun x hx => ⟨by have := hlb x hx; omega, by have := hlb x hx; omega⟩, by omega, Nat.zero_le _⟩
  have hfw4 : Fr (fun _ => False) w w4 := hf2.trans' hf4
  obtain ⟨r, hr0⟩ : ∃ r, InfM.inf mo B = r := ⟨_, rfl⟩
  rw [hr0]
  unfold InfM.inf at hr0
  have far : ∀ {w1 w2 : World} {slx : Sl} {px ex : Nat} {ox : List UInt8}, Fr (fun _ => False) w w1 → RS w1 (b + 1) b l3 slx B px ox mo ex → Fr (fun k => k = b ∨ At slx k) w1 w2 → Fr (fun _ => False) w w2 := fun h1 hx h2 => h1.trans h2 fun k hk hh => by
    rcases hh with hh | ⟨y, hy, e⟩
    · omega
    · have := (hx.own.blk hy).1; omega
  have farb : ∀ {w1 w2 : World}, Fr (fun _ => False) w w1 → Fr (· = b) w1 w2 → Fr (fun _ => False) w w2 := fun h1 h2 => h1.trans h2 fun k hk hh => by omega
  refine ⟨fun w' => Fr (fun _ => False) w w' ∧ ∃ sl p out er, RS w' (b + 1) b l3 sl B p out mo er ∧ ((er = 0 ∧ out.length ≤ mo ∧ ∃ f, B.length < f + p ∧ InfM.blocks mo B f p out = r) ∨ (er ≠ 0 ∧ r = .error er)),
    fun w' => (B.length + 1) * (1 - cellNat w' ⟨b, 4, none⟩) + (B.length - cellNat w' ⟨b, 1, none⟩), ⟨hfw4, _, 0, [], 0, hst, .inl ⟨rfl, Nat.zero_le _, B.length + 1, by omega, hr0⟩⟩, ?_⟩
  rintro w7 ⟨hf7, sl, p, out, er, h7, ⟨rfl, hfit, f, hfp, hr⟩ | ⟨he, hre⟩⟩
  rotate_left 1
  · refine ⟨_, h7.c4, fun hh => (he (by simpa using hh)).elim, fun _ => ⟨_, h7.c4, fun w55 d55 => ?_⟩⟩
    rw [hre]
    exact ⟨rfl, hf7.trans' (.drew _ d55)⟩
  have hp := h7.hp
  obtain ⟨g, rfl⟩ : ∃ g, f = g + 1 := ⟨f - 1, by omega⟩
  have e1 : IntKind.i64.wrap ((l3.len : Int) - (p : Int)) = ((B.length - p : Nat) : Int) := by have := h7.blen; rw [wrap_i64 (by omega) (by omega)]; omega
  refine ⟨_, h7.c4, fun _ => ?_, fun hh => (by simp at hh)⟩
  refine ⟨fun w' => Fr (fun _ => False) w w' ∧ ∃ er, RS w' (b + 1) b l3 sl B p out mo er ∧ ((er = 0 ∧ p + 3 ≤ B.length) ∨ (er = 6 ∧ B.length < p + 3)), ⟨l3, by rw [cell_blk h7.blk]; rfl, (p : Int), by rw [cell_blk h7.blk]; rfl, fun w12 d12 => ?_⟩, ?_⟩
  · rw [e1]
    refine ⟨fun hlt => ?_, fun hge => ?_⟩
    · have hlt := of_decide_eq_true hlt
      refine (fail_spec (h7.drew d12) 6).mono ?_
      rintro e w14 ⟨rfl, h14, hf14⟩
      exact ⟨rfl, farb (hf7.trans' (.drew _ d12)) hf14, 6, h14, .inr ⟨rfl, by omega⟩⟩
    · have hge := of_decide_eq_false hge
      exact ⟨hf7.trans' (.drew _ d12), 0, h7.drew d12, .inl ⟨rfl, by omega⟩⟩
  rintro w15 ⟨hf15, er, h15, hcase⟩
  refine (snum_g h15 (n := 1) (by omega) (by omega)).mono ?_
  rintro e w17 ⟨v1, p1, rfl, hv1, h17, hf17, g1⟩
  refine ⟨_, rfl, (snum_g h17 (n := 2) (by omega) (by omega)).mono ?_⟩
  rintro e w20 ⟨v2, p2, rfl, hv2, h20, hf20, g2⟩
  have hf20' := farb (farb hf15 hf17) hf20
  have hv1' : v1 < 2 := hv1
  have hv2' : v2 < 4 := hv2
  have hpos7 := h7.pos
  have herr7 := h7.err
  refine ⟨_, rfl, fun w' => Fr (fun _ => False) w w' ∧ ∃ sl' p' out' er', RS w' (b + 1) b l3 sl' B p' out' mo er' ∧ ((er' = 0 ∧ out'.length ≤ mo ∧ p + 3 ≤ p' ∧ (if v1 = 1 then r = .ok (out', p') else InfM.blocks mo B g p' out' = r)) ∨ (er' ≠ 0 ∧ r = .error er')), ?_, ?_⟩
  · rw [InfM.blocks] at hr
    rcases hcase with ⟨rfl, hlen⟩ | ⟨rfl, hlen⟩
    rotate_left 1
    · have htk : InfM.take B 3 p = .error 6 := by unfold InfM.take; rw [if_neg (by omega)]
      rw [htk] at hr
      exact ⟨_, h20.c4, fun hh => (by simp at hh), fun _ => ⟨hf20', sl, p2, out, 6, h20, .inr ⟨by decide, hr.symm⟩⟩⟩
    obtain ⟨a1, a2⟩ := g1 rfl
    obtain ⟨b1, b2⟩ := g2 rfl
    subst a2
    subst b2
    have hnum : num ((B.drop p).take 3) = v1 + 2 * v2 := by
      rw [show 3 = 1 + 2 from rfl, List.take_add, num_append, List.drop_drop, List.length_take, List.length_drop, show min 1 (B.length - p) = 1 by omega, ← a1, ← b1]
    have htk : InfM.take B 3 p = .ok (v1 + 2 * v2, p + 3) := by unfold InfM.take; rw [if_pos hlen, hnum]
    rw [htk] at hr
    dsimp only at hr
    rw [show (v1 + 2 * v2) / 2 = v2 by omega, show (v1 + 2 * v2) % 2 = v1 by omega] at hr
    rw [show p + 1 + 2 = p + 3 by omega] at h20
    have hgood := InfM.block_good (Nat.le_refl mo) B v2 (p + 3) out hfit
    generalize hblk : InfM.block mo B v2 (p + 3) out = rb at hr hgood
    -- what a block leaves
    have leave : ∀ {w' wa : World} {sla : Sl} {pa ea : Nat} {oa : List UInt8}, Fr (fun _ => False) w wa → RS wa (b + 1) b l3 sla B pa oa mo ea → SOut wa w' (b + 1) b l3 sla B mo rb → Fr (fun _ => False) w w' ∧ ∃ sl' p' out' er', RS w' (b + 1) b l3 sl' B p' out' mo er' ∧ ((er' = 0 ∧ out'.length ≤ mo ∧ p + 3 ≤ p' ∧ (if v1 = 1 then r = .ok (out', p') else InfM.blocks mo B g p' out' = r)) ∨ (er' ≠ 0 ∧ r = .error er')) := by
      rintro w' wa sla pa ea oa hfa ha ⟨hf, sl', p', out', hs, ⟨hok, h'⟩ | ⟨er, he, hee, h'⟩⟩
      · rw [hok] at hr
        dsimp only at hr
        refine ⟨far hfa ha hf, sl', p', out', 0, h', .inl ⟨rfl, ?_, InfM.block_le (hblk.trans hok), ?_⟩⟩
        · rcases hgood with hg | ⟨_, hg⟩
          · rw [hok] at hg; cases hg
          · exact hg _ _ hok
        · by_cases h1 : v1 = 1
          · rw [if_pos h1] at hr ⊢; exact hr.symm
          · rw [if_neg h1] at hr ⊢; exact hr
      · rw [hee] at hr
        exact ⟨far hfa ha hf, sl', p', out', er, h', .inr ⟨he, hr.symm⟩⟩
    unfold InfM.block at hblk
    refine ⟨_, h20.c4, fun _ => ⟨fun hk0 => ?_, fun hk0 => ⟨fun hk1 => ?_, fun hk1 => ⟨fun hk2 => ?_, fun hk2 => ⟨fun hk3 => ?_, fun hk3 => ?_⟩⟩⟩⟩, fun hh => (by simp at hh)⟩
    · have hk : v2 = 0 := by have := eq_of_beq hk0; omega
      rw [if_pos hk] at hblk
      refine (sstored_spec h20 hmo hfit (by omega)).mono ?_
      rintro e w25 ⟨rfl, hso⟩
      rw [hblk] at hso
      exact ⟨rfl, leave hf20' h20 hso⟩
    · have hk : v2 = 1 := by have := eq_of_beq hk1; omega
      rw [if_neg (by omega), if_pos hk] at hblk
      refine (rfixed_spec w20).mono ?_
      rintro e w27 ⟨l, d, rfl, hl, hll, hd, hdl, hf27⟩
      have h27 := h20.keep hf27 (by simp) (by simp) (by simp)
      have g1 : InfM.fixedLit.length = 288 := by rw [fixedLit_eq]; simp
      have g2 : InfM.fixedDist.length = 32 := by rw [fixedDist_eq]; simp
      have c1 := InfM.chk_fits fixedLit_chk
      have c2 := InfM.chk_fits fixedDist_chk
      generalize InfM.fixedLit = LL at hl g1 c1 hblk
      generalize InfM.fixedDist = DD at hd g2 c2 hblk
      refine ⟨l, d, rfl, (spacked_spec h27 hmo hfit hl (by omega) c1 (by omega) hd (by omega) c2 (by omega)).mono ?_⟩
      rintro e w31 ⟨rfl, hso⟩
      rw [hblk] at hso
      exact ⟨rfl, leave (hf20'.trans' hf27) h27 hso⟩
    · have hk : v2 = 2 := by have := eq_of_beq hk2; omega
      rw [if_neg (by omega), if_neg (by omega), if_pos hk] at hblk
      refine (sdynamic_spec h20).mono ?_
      rintro e w33 ⟨v, rfl, hf33, l, d, rfl, ⟨lit, dist, p', ht, h33, hl, hll, hd, hdl, c1, c2, k1, k2⟩ | ⟨er, p', he, ht, h33⟩⟩
      · rw [ht] at hblk
        dsimp only at hblk
        refine ⟨l, d, rfl, _, h33.c4, fun _ => ?_, fun hh => (by simp at hh)⟩
        refine (spacked_spec h33 hmo hfit hl hll (InfM.chk_fits c1) k1 hd hdl (InfM.chk_fits c2) k2).mono ?_
        rintro e w38 ⟨rfl, hso⟩
        rw [hblk] at hso
        exact ⟨rfl, leave (farb hf20' hf33) h33 hso⟩
      · rw [ht] at hblk
        dsimp only at hblk
        refine ⟨l, d, rfl, _, h33.c4, fun hh => (he (by simpa using hh)).elim, fun _ => ?_⟩
        rw [← hblk] at hr
        exact ⟨farb hf20' hf33, sl, p', out, er, h33, .inr ⟨he, hr.symm⟩⟩
    · have hk : v2 = 3 := by have := eq_of_beq hk3; omega
      rw [if_neg (by omega), if_neg (by omega), if_neg (by omega)] at hblk
      refine (fail_spec h20 3).mono ?_
      rintro e w40 ⟨rfl, h40, hf40⟩
      rw [← hblk] at hr
      exact ⟨rfl, farb hf20' hf40, sl, _, out, 3, h40, .inr ⟨by decide, hr.symm⟩⟩
    · exfalso
      have z0 : v2 ≠ 0 := fun hh => by rw [hh] at hk0; simp at hk0
      have z1 : v2 ≠ 1 := fun hh => by rw [hh] at hk1; simp at hk1
      have z2 : v2 ≠ 2 := fun hh => by rw [hh] at hk2; simp at hk2
      have z3 : v2 ≠ 3 := fun hh => by rw [hh] at hk3; simp at hk3
      omega
  rintro w41 ⟨hf41, sl', p', out', er', h41, ⟨rfl, hfit', hpp, hcase'⟩ | ⟨he, hre⟩⟩
  · refine ⟨_, h41.c4, fun _ => ⟨fun hl1 w43 d43 => ?_, fun hn1 => ?_⟩, fun hh => (by simp at hh)⟩
    · have hl1 : v1 = 1 := by have := eq_of_beq hl1; omega
      rw [if_pos hl1] at hcase'
      have h43 := h41.drew d43
      have hp43 := h43.hp
      refine ⟨fun w' => w' = w43, rfl, sl', fun w' hw' => hw' ▸ h43.c2, (p' : Int), fun w' hw' => (by rw [hw', cell_blk h43.blk]; rfl), ⟨out'.toArray⟩, fun w' hw' => ?_, ?_⟩
      · subst hw'
        exact bytes_str (e := T_uint8) (by kernel_rfl) (by kernel_rfl) (by kernel_rfl) sl'.cap h43.own.reads h43.len.symm
      refine (up_spec p' (by omega) w43).mono ?_
      rintro e w52 ⟨rfl, hw⟩
      subst hw
      refine ⟨_, rfl, rfl, by decide, ?_, hf41.trans' (.drew _ d43)⟩
      rw [hcase']
      unfold ans3
      have : IntKind.i64.wrap (Int.tdiv (((p' + 7) / 8 * 8 : Nat) : Int) 8) = (((p' + 7) / 8 : Nat) : Int) := by
        rw [Int.tdiv_eq_ediv_of_nonneg (by omega), wrap_i64 (by omega) (by omega)]; omega
      rw [this]
      rfl
    · have hn1 : v1 ≠ 1 := fun hh => by rw [hh] at hn1; simp at hn1
      rw [if_neg hn1] at hcase'
      refine ⟨⟨hf41, sl', p', out', 0, h41, .inl ⟨rfl, hfit', g, by omega, hcase'⟩⟩, ?_⟩
      have := h41.hp
      dsimp only
      rw [h41.pos, h41.err, hpos7, herr7]
      omega
  · refine ⟨_, h41.c4, fun hh => (he (by simpa using hh)).elim, fun _ => ⟨⟨hf41, sl', p', out', er', h41, .inr ⟨he, hre⟩⟩, ?_⟩⟩
    dsimp only
    rw [h41.pos, h41.err, hpos7, herr7, show 1 - er' = 0 by omega]
    omega
end Go.Proofs.Ytofejgaanpaieaa
