/- The reference's stream: a symbol read, and calls after an error. Conditions: the stream is in order; the lengths are those of codes. -/
import Derived.Test.YtofejgaanpaieaaInfR1
set_option linter.unusedVariables false
namespace Go.Proofs.Ytofejgaanpaieaa
open Go Vc BitsM HuffM Go.Proofs

theorem longer_win {ls : List Nat} (hf : Fits ls) (b : List Bool) : InfM.Longer ls (b.take 16) ↔ InfM.Longer ls b := by
  have h15 : ∀ {s : Nat}, s < ls.length → (cbits ls s).length ≤ 15 := fun {s} hs => by
    rw [cbits_length, List.getD_eq_getElem?_getD, List.getElem?_eq_getElem hs]
    exact hf.mem (List.getElem?_eq_getElem hs)
  constructor
  · rintro ⟨s, h1, h2, h3⟩
    have := h15 h1
    have hlen : (b.take 16).length = min 16 b.length := List.length_take
    have he : b.take 16 = b := List.take_of_length_le (by omega)
    rw [he] at h2 h3
    exact ⟨s, h1, h2, h3⟩
  · rintro ⟨s, h1, h2, h3⟩
    have := h15 h1
    have he : b.take 16 = b := List.take_of_length_le (by omega)
    rw [he]
    exact ⟨s, h1, h2, h3⟩
theorem at_win {ls : List Nat} (hf : Fits ls) (b : List Bool) (s n : Nat) : HuffM.At ls (b.take 16) s n ↔ HuffM.At ls b s n := by
  have hlen : (b.take 16).length = min 16 b.length := List.length_take
  constructor
  · rintro ⟨h1, h2, h3, h4⟩
    have h15 := hf.mem h1
    rw [List.take_take, show min n 16 = n by omega] at h4
    exact ⟨h1, h2, by omega, h4⟩
  · rintro ⟨h1, h2, h3, h4⟩
    have h15 := hf.mem h1
    refine ⟨h1, h2, by omega, ?_⟩
    rw [List.take_take, show min n 16 = n by omega]; exact h4
/-- What the reference's reading of the next sixteen bits comes to. -/
theorem sym_win {ls : List Nat} (hf : Fits ls) {B : List Bool} {p y k err : Nat} (h : RefRes ls ((B.drop p).take 16) y k err) :
    (err = 0 ∧ InfM.sym ls B p = .ok (y, p + k) ∧ 1 ≤ k ∧ k ≤ (B.drop p).length ∧ k ≤ 15 ∧ y < ls.length) ∨ (err ≠ 0 ∧ InfM.sym ls B p = .error err) := by
  rcases h with ⟨h1, h2⟩ | ⟨h1, h2, h3, h4, s, h5, h6⟩ | ⟨h1, h2, h3, h4, h5⟩
  · have h2 := (at_win hf _ _ _).1 h2
    exact .inl ⟨h1, InfM.sym_at h2, h2.2.1, h2.2.2.1, hf.mem h2.1, (List.getElem?_eq_some_iff.1 h2.1).1⟩
  · refine .inr ⟨by omega, ?_⟩
    have hs : s < ls.length := by
      rcases Nat.lt_or_ge s ls.length with hs | hs
      · exact hs
      · rw [cbits_length, List.getD_eq_getElem?_getD, List.getElem?_eq_none hs] at h5
        simp at h5
    have hl : InfM.Longer ls (B.drop p) := (longer_win hf _).1 ⟨s, hs, h5, h6⟩
    unfold InfM.sym
    rw [dif_neg (fun ⟨x, hx⟩ => h4 _ _ ((at_win hf _ _ _).2 hx)), if_pos hl, h1]
  · refine .inr ⟨by omega, ?_⟩
    have hl : ¬ InfM.Longer ls (B.drop p) := fun hh => by
      obtain ⟨s, g1, g2, g3⟩ := (longer_win hf _).2 hh
      exact h5 s g1 g2 g3
    unfold InfM.sym
    rw [dif_neg (fun ⟨x, hx⟩ => h4 _ _ ((at_win hf _ _ _).2 hx)), if_neg hl, h1]

/-- Nothing is done after an error. -/
theorem fail_idle {w : World} {base b : Nat} {bl0 sl : Sl} {B : List Bool} {p : Nat} {out : List UInt8} {most er : Nat} (h : RS w base b bl0 sl B p out most er) (he : er ≠ 0) (x : Int) :
    Calls Try.prog F_cartularyref05_Stream_fail #[.pointer (some ⟨b, 0, none⟩), .int .i64 x] w fun e w' => e = .returned (.tuple #[]) ∧ w' = w := by
  refine vc_cartularyref05_Stream_fail_ok (R := fun v w' => v = .tuple #[] ∧ w' = w) ?_ (fun v w' h => ⟨by rw [h.1], h.2⟩)
  exact ⟨(er : Int), by rw [cell_blk h.blk]; rfl, fun hh => (he (by simpa using hh)).elim, fun _ => ⟨rfl, rfl⟩⟩
theorem number_idle {w : World} {base b : Nat} {bl0 sl : Sl} {B : List Bool} {p : Nat} {out : List UInt8} {most er : Nat} (h : RS w base b bl0 sl B p out most er) (he : er ≠ 0) (x : Int) :
    Calls Try.prog F_cartularyref05_Stream_number #[.pointer (some ⟨b, 0, none⟩), .int .i64 x] w fun e w' => e = .returned (.int .i64 0) ∧ w' = w := by
  refine vc_cartularyref05_Stream_number_ok (R := fun v w' => v = .int .i64 0 ∧ w' = w) ?_ (fun v w' h => ⟨by rw [h.1], h.2⟩)
  exact ⟨(er : Int), by rw [cell_blk h.blk]; rfl, fun _ => ⟨rfl, rfl⟩, fun hh => (he (by simpa using hh)).elim⟩
/-- A symbol. -/
theorem ssym_spec {w : World} {base b : Nat} {bl0 sl : Sl} {B : List Bool} {p : Nat} {out : List UInt8} {most : Nat} (h : RS w base b bl0 sl B p out most 0)
    {lo lo' hi : Nat} {o : Sl} {ls : List Nat} (hb : BitRows w lo lo' hi o ((List.range ls.length).map (cbits ls))) (hf : Fits ls) (hs : ls.length ≤ 400) :
    Calls Try.prog F_cartularyref05_Stream_symbol #[.pointer (some ⟨b, 0, none⟩), slv o] w fun e w' => Fr (· = b) w w' ∧
      ((∃ v p', InfM.sym ls B p = .ok (v, p') ∧ e = .returned (.int .i64 (v : Int)) ∧ v < ls.length ∧ p < p' ∧ RS w' base b bl0 sl B p' out most 0) ∨ (∃ er, er ≠ 0 ∧ InfM.sym ls B p = .error er ∧ e = .returned (.int .i64 0) ∧ RS w' base b bl0 sl B p out most er)) := by
  refine vc_cartularyref05_Stream_symbol_ok (R := fun r w' => Fr (· = b) w w' ∧
      ((∃ v p', InfM.sym ls B p = .ok (v, p') ∧ r = .int .i64 (v : Int) ∧ v < ls.length ∧ p < p' ∧ RS w' base b bl0 sl B p' out most 0) ∨ (∃ er, er ≠ 0 ∧ InfM.sym ls B p = .error er ∧ r = .int .i64 0 ∧ RS w' base b bl0 sl B p out most er))) ?_
    (fun v w' h => ⟨h.1, h.2.imp (fun ⟨v, p', h⟩ => ⟨v, p', h.1, by rw [h.2.1], h.2.2⟩) (fun ⟨er, h⟩ => ⟨er, h.1, h.2.1, by rw [h.2.2.1], h.2.2.2⟩)⟩)
  have hsm := h.small
  have hp := h.hp
  have hbl := h.blen
  have hcap := h.bcap
  refine ⟨((0 : Nat) : Int), by rw [cell_blk h.blk]; rfl, fun hh => (by simp at hh), fun _ w2 d2 => ?_⟩
  have h2 := h.drew d2
  refine ⟨fun w' => w'.heap[b]? = w2.heap[b]?, rfl, bl0, fun w' hw => (by rw [cell_blk (hw.trans h2.blk)]; rfl), (p : Int), fun w' hw => (by rw [cell_blk (hw.trans h2.blk)]; rfl), (p : Int), fun w' hw => (by rw [cell_blk (hw.trans h2.blk)]; rfl), bl0, fun w' hw => (by rw [cell_blk (hw.trans h2.blk)]; rfl), ?_⟩
  have e1 : (if ((bl0.len : Nat) : Int) < IntKind.i64.wrap ((p : Int) + 16) then ((bl0.len : Nat) : Int) else IntKind.i64.wrap ((p : Int) + 16)) = ((min B.length (p + 16) : Nat) : Int) := by
    rw [wrap_i64 (by omega) (by omega)]
    split <;> omega
  rw [e1]
  refine ⟨⟨by omega, by omega, by omega⟩, ?_⟩
  rw [Int.toNat_natCast, Int.toNat_natCast]
  have hr : Reads w2 (subA bl0.a bl0.cap p 1) (bl ((B.drop p).take 16)) := by
    have := ((h2.bits).sub (cap := bl0.cap) (by rw [List.length_map]; omega) p).take 16
    simpa [bl, List.map_take, List.map_drop] using this
  have hlen : ((B.drop p).take 16).length = min B.length (p + 16) - p := by rw [List.length_take, List.length_drop]; omega
  refine (rread_spec (hb.keep (.drew (fun _ => False) d2) (by simp) (by simp)) hf hs hr hlen (by rw [hlen]; omega)).mono ?_
  rintro e w13 ⟨y, k, er, rfl, href, d13⟩
  have h13 := h2.drew d13
  refine ⟨_, _, _, rfl, h13.blk.trans h2.blk.symm, fun hne => ?_, fun heq => ?_⟩
  · have hne : er ≠ 0 := fun hz => by rw [hz] at hne; simp at hne
    rcases sym_win hf href with ⟨h0, _⟩ | ⟨_, hsym⟩
    · exact absurd h0 hne
    refine (fail_spec h13 er).mono ?_
    rintro e w18 ⟨rfl, h18, hf18⟩
    exact ⟨rfl, ((Fr.drew _ d2).trans' (.drew _ d13)).trans' hf18, .inr ⟨er, hne, hsym, rfl, h18⟩⟩
  · have heq : er = 0 := by have : ((er : Nat) : Int) = 0 := by simpa using heq
                            omega
    rcases sym_win hf href with ⟨h0, hsym, hk1, hk, hk15, hy⟩ | ⟨hne, _⟩
    · rw [List.length_drop] at hk
      have e2 : IntKind.i64.wrap ((p : Int) + (k : Int)) = ((p + k : Nat) : Int) := by rw [wrap_i64 (by omega) (by omega)]; omega
      refine ⟨(p : Int), by rw [cell_blk h13.blk]; rfl, wr_blk h13.blk (by simp), fun w20 h20 => ?_⟩
      rw [e2] at h20
      have hf20 : Fr (· = b) w13 w20 := h20 ▸ Fr.set (· = b) _ (a := ⟨b, 1, none⟩) (.int .i64 ((p + k : Nat) : Int)) rfl
      refine ⟨((Fr.drew _ d2).trans' (.drew _ d13)).trans' hf20, .inl ⟨y, p + k, hsym, rfl, hy, by omega, ⟨by rw [h20]; exact set_blk h13.blk 1 _, h13.own.keep hf20 (fun x hx e => by have := (h13.own.blk hx).1; have := h13.hb; omega), h13.bits.keep hf20 (fun x hx e => (h13.hbits x hx).2 e), h.blen, h.bcap, h.small, h.hb, h.hbits, Nat.le_trans h13.hbase hf20.size, by omega⟩⟩⟩
    · exact absurd heq hne
/-- .. after an error. -/
theorem ssym_idle {w : World} {base b : Nat} {bl0 sl : Sl} {B : List Bool} {p : Nat} {out : List UInt8} {most er : Nat} (h : RS w base b bl0 sl B p out most er) (he : er ≠ 0) (o : Sl) :
    Calls Try.prog F_cartularyref05_Stream_symbol #[.pointer (some ⟨b, 0, none⟩), slv o] w fun e w' => e = .returned (.int .i64 0) ∧ w' = w := by
  refine vc_cartularyref05_Stream_symbol_ok (R := fun v w' => v = .int .i64 0 ∧ w' = w) ?_ (fun v w' h => ⟨by rw [h.1], h.2⟩)
  exact ⟨(er : Int), by rw [cell_blk h.blk]; rfl, fun _ => ⟨rfl, rfl⟩, fun hh => (he (by simpa using hh)).elim⟩
theorem sput_idle {w : World} {base b : Nat} {bl0 sl : Sl} {B : List Bool} {p : Nat} {out : List UInt8} {most er : Nat} (h : RS w base b bl0 sl B p out most er) (he : er ≠ 0) (x : Int) :
    Calls Try.prog F_cartularyref05_Stream_put #[.pointer (some ⟨b, 0, none⟩), .int .u8 x] w fun e w' => e = .returned (.tuple #[]) ∧ Drew w w' := by
  refine vc_cartularyref05_Stream_put_ok (R := fun v w' => v = .tuple #[] ∧ Drew w w') ?_ (fun v w' h => ⟨by rw [h.1], h.2⟩)
  exact ⟨fun w9 => Drew w w9, ⟨(er : Int), by rw [cell_blk h.blk]; rfl, fun hh => (he (by simpa using hh)).elim, fun _ w8 d => d⟩, fun w9 d => ⟨(er : Int), by rw [cell_blk (h.drew d).blk]; rfl, fun hh => (he (by simpa using hh)).elim, fun _ => ⟨rfl, d⟩⟩⟩
/-- A byte put, wherever what came out lies. -/
theorem sput {w : World} {base b : Nat} {bl0 sl : Sl} {B : List Bool} {p : Nat} {out : List UInt8} {most c : Nat} (h : RS w base b bl0 sl B p out most 0) (hc : c < 256) (hm : most ≤ 65536) :
    Calls Try.prog F_cartularyref05_Stream_put #[.pointer (some ⟨b, 0, none⟩), .int .u8 (c : Int)] w fun e w' => e = .returned (.tuple #[]) ∧ Fr (fun k => k = b ∨ At sl k) w w' ∧
      ((most ≤ out.length ∧ RS w' base b bl0 sl B p out most 2) ∨ (out.length < most ∧ ∃ sl', RS w' base b bl0 sl' B p (out ++ [UInt8.ofNat c]) most 0 ∧ Since w sl sl')) :=
  sput_spec h hc hm fun x hx y hy e => by have := (h.hbits x hx).1; have := (h.own.blk hy).1; omega
end Go.Proofs.Ytofejgaanpaieaa
