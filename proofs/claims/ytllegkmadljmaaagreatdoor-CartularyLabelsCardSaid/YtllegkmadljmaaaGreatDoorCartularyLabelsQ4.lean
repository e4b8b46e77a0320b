/- Texts of this seat in one: made by a program of ours. -/
import Derived.Test.YtllegkmadljmaaaGreatDoorCartularyLabelsQ0
import Derived.Test.YtllegkmadljmaaaGreatDoorCartularyLabelsQ1
import Derived.Test.YtllegkmadljmaaaGreatDoorCartularyLabelsQ3
import Derived.Laws.OwnMore
import Derived.Laws.CopyRow
import Derived.Test.YtllegkmadljmaaaGreatDoorProg
import Derived.Laws.Strings
/- The inflater of the program answers as the model does. Conditions: the state is in order; the text is no longer than a slice may be. -/
set_option linter.unusedVariables false
namespace Go.Proofs.YtllegkmadljmaaaGreatDoor
open Go Vc BitsM HuffM Go.Proofs

/-- A number out of bytes, lowest first. -/
theorem little_spec (s : ByteArray) (hs : s.size ≤ 8) (w : World) :
    Calls Tryz.prog F_sums_FromLittle #[.string s] w fun e w' => e = .returned (.int .u64 ((V s s.size : Nat) : Int)) ∧ w' = w := by
  refine vc_sums_FromLittle_ok (R := fun v w' => v = .int .u64 ((V s s.size : Nat) : Int) ∧ w' = w) ?_ (fun v w' h => ⟨by rw [h.1], h.2⟩)
  have hlim : (if 8 < (s.size : Int) then 8 else (s.size : Int)) = (s.size : Int) := by rw [if_neg (by omega)]
  refine ⟨fun a i w5 => ∃ n : Nat, i = (n : Int) ∧ n ≤ s.size ∧ a = ((V s n : Nat) : Int) ∧ w5 = w, fun a i w5 => s.size - i.toNat, ⟨0, rfl, Nat.zero_le _, rfl, rfl⟩, ?_⟩
  rintro a i w5 ⟨n, rfl, hn, rfl, rfl⟩
  rw [hlim]
  refine ⟨fun hlt => ?_, fun hge => ?_⟩
  · have hlt := of_decide_eq_true hlt
    have hv := V_lt s n
    have hb := byt_lt s n
    have hp : 2 ^ (8 * n) ≤ 2 ^ 56 := Nat.pow_le_pow_right (by decide) (by omega)
    have hor := held_or s n 0 (Nat.zero_le _)
    simp only [held, Nat.pow_zero, Nat.div_one, Nat.sub_zero] at hor
    have e1 : IntKind.i64.wrap (8 * (n : Int)) = ((8 * n : Nat) : Int) := by rw [wrap_i64 (by omega) (by omega)]; omega
    have hm : min ((8 * n : Nat) : Int).toNat 64 = 8 * n := by omega
    have hc : (2 : Int) ^ (8 * n) = ((2 ^ (8 * n) : Nat) : Int) := by push_cast; rfl
    have hmul : byt s n * 2 ^ (8 * n) ≤ 255 * 2 ^ 56 := Nat.mul_le_mul (by omega) hp
    have e2 : IntKind.u64.wrap (((BitVec.ofInt 64 ((V s n : Nat) : Int) ||| BitVec.ofInt 64 (IntKind.u64.wrap (IntKind.u64.wrap (byteAt s (n : Int)) * 2 ^ min (IntKind.i64.wrap (8 * (n : Int))).toNat 64))).toNat : Nat) : Int) = ((V s (n + 1) : Nat) : Int) := by
      have hv2 := V_lt s (n + 1)
      have hp2 : 2 ^ (8 * (n + 1)) ≤ 2 ^ 64 := Nat.pow_le_pow_right (by decide) (by omega)
      rw [e1, hm, byteAt_nat, wrap_u64 (x := ((byt s n : Nat) : Int)) (by omega) (by omega), hc, ← Int.natCast_mul, wrap_u64 (x := ((byt s n * 2 ^ (8 * n) : Nat) : Int)) (by omega) (by omega),
        or_nat 64 _ _ (by omega) (by omega), hor, wrap_u64 (by omega) (by omega)]
    refine ⟨⟨by omega, by omega⟩, by rw [e1]; omega, ?_⟩
    rw [e2]
    have e3 : IntKind.i64.wrap ((n : Int) + 1) = ((n + 1 : Nat) : Int) := by rw [wrap_i64 (by omega) (by omega)]; omega
    rw [e3]
    exact ⟨⟨n + 1, rfl, by omega, rfl, rfl⟩, by dsimp only; omega⟩
  · have hge := of_decide_eq_false hge
    have : n = s.size := by omega
    subst this
    exact ⟨rfl, rfl⟩

theorem lbase_spec (i : Nat) (hi : i ≤ 28) (w : World) :
    Calls Tryz.prog F_inflate_lengthBase #[.int .i64 i] w fun e w' => e = .returned (.tuple #[.int .i64 (((InfM.lenBase i).1 : Nat) : Int), .int .i64 (((InfM.lenBase i).2 : Nat) : Int)]) ∧ w' = w := by
  refine vc_inflate_lengthBase_ok (R := fun v w' => v = .tuple #[.int .i64 (((InfM.lenBase i).1 : Nat) : Int), .int .i64 (((InfM.lenBase i).2 : Nat) : Int)] ∧ w' = w) ?_ (fun v w' h => ⟨by rw [h.1], h.2⟩)
  have hall : ∀ i, i ≤ 28 → (i = 28 → InfM.lenBase i = (258, 0)) ∧ (i ≠ 28 → i < 8 → InfM.lenBase i = (3 + i, 0)) ∧ (i ≠ 28 → ¬ i < 8 →
      (0 : Int) ≤ IntKind.i64.wrap (IntKind.i64.wrap (Int.tdiv (i : Int) 4) - 1) ∧
      IntKind.i64.wrap (3 + IntKind.i64.wrap (IntKind.i64.wrap (4 + Int.tmod (i : Int) 4) * 2 ^ min (IntKind.i64.wrap (IntKind.i64.wrap (Int.tdiv (i : Int) 4) - 1)).toNat 64)) = (((InfM.lenBase i).1 : Nat) : Int) ∧
      IntKind.i64.wrap (IntKind.i64.wrap (Int.tdiv (i : Int) 4) - 1) = (((InfM.lenBase i).2 : Nat) : Int)) := by decide +kernel
  obtain ⟨h1, h2, h3⟩ := hall i hi
  refine ⟨fun h => ?_, fun h => ⟨fun h' => ?_, fun h' => ?_⟩⟩
  · have : i = 28 := by have := eq_of_beq h; omega
    rw [h1 this]; exact ⟨rfl, rfl⟩
  · have hn : i ≠ 28 := fun hh => by subst hh; simp at h
    have hl : i < 8 := by have := of_decide_eq_true h'; omega
    rw [h2 hn hl, wrap_i64 (by omega) (by omega)]
    exact ⟨by simp, rfl⟩
  · have hn : i ≠ 28 := fun hh => by subst hh; simp at h
    have hl : ¬ i < 8 := by have := of_decide_eq_false h'; omega
    obtain ⟨ha, hb, hc⟩ := h3 hn hl
    refine ⟨by decide, by decide, ha, ?_⟩
    rw [hb, hc]; exact ⟨rfl, rfl⟩
theorem dbase_spec (i : Nat) (hi : i ≤ 29) (w : World) :
    Calls Tryz.prog F_inflate_distBase #[.int .i64 i] w fun e w' => e = .returned (.tuple #[.int .i64 (((InfM.distBase i).1 : Nat) : Int), .int .i64 (((InfM.distBase i).2 : Nat) : Int)]) ∧ w' = w := by
  refine vc_inflate_distBase_ok (R := fun v w' => v = .tuple #[.int .i64 (((InfM.distBase i).1 : Nat) : Int), .int .i64 (((InfM.distBase i).2 : Nat) : Int)] ∧ w' = w) ?_ (fun v w' h => ⟨by rw [h.1], h.2⟩)
  have hall : ∀ i, i ≤ 29 → (i < 4 → InfM.distBase i = (1 + i, 0)) ∧ (¬ i < 4 →
      (0 : Int) ≤ IntKind.i64.wrap (IntKind.i64.wrap (Int.tdiv (i : Int) 2) - 1) ∧
      IntKind.i64.wrap (1 + IntKind.i64.wrap (IntKind.i64.wrap (2 + Int.tmod (i : Int) 2) * 2 ^ min (IntKind.i64.wrap (IntKind.i64.wrap (Int.tdiv (i : Int) 2) - 1)).toNat 64)) = (((InfM.distBase i).1 : Nat) : Int) ∧
      IntKind.i64.wrap (IntKind.i64.wrap (Int.tdiv (i : Int) 2) - 1) = (((InfM.distBase i).2 : Nat) : Int)) := by decide +kernel
  obtain ⟨h2, h3⟩ := hall i hi
  refine ⟨fun h' => ?_, fun h' => ?_⟩
  · have hl : i < 4 := by have := of_decide_eq_true h'; omega
    rw [h2 hl, wrap_i64 (by omega) (by omega)]
    exact ⟨by simp, rfl⟩
  · have hl : ¬ i < 4 := by have := of_decide_eq_false h'; omega
    obtain ⟨ha, hb, hc⟩ := h3 hl
    refine ⟨by decide, by decide, ha, ?_⟩
    rw [hb, hc]; exact ⟨rfl, rfl⟩

/-- A stream that is being read, in order: what came out, the place. -/
structure St (w : World) (base b rb : Nat) (sl : Sl) (s : ByteArray) (off p : Nat) (out : List UInt8) (most : Nat) : Prop where
  blk : w.heap[b]? = some (.cells #[.pointer (some ⟨rb, 0, none⟩), .slice sl.a sl.len sl.cap, .int .i64 (most : Int)] T_inflate_state (0, 0))
  own : Vc.Own w base T_uint8 sl (byteV out)
  rd : Rd w rb s (8 * off + p) off
  hb : b < base
  hrb : rb < base
  ne : rb ≠ b
  hbase : base ≤ w.heap.size
  fit : out.length ≤ most
  small : most ≤ 65536
/-- The blocks that are written. -/
def SX (b rb : Nat) (sl : Sl) (k : Nat) : Prop := k = b ∨ k = rb ∨ At sl k
section
variable {w w2 : World} {base b rb off p most : Nat} {sl : Sl} {s : ByteArray} {out : List UInt8}
theorem St.c0 (h : St w base b rb sl s off p out most) : w.cell? ⟨b, 0, none⟩ = some (.pointer (some ⟨rb, 0, none⟩)) := by rw [cell_blk h.blk]; rfl
theorem St.c1 (h : St w base b rb sl s off p out most) : w.cell? ⟨b, 1, none⟩ = some (.slice sl.a sl.len sl.cap) := by rw [cell_blk h.blk]; rfl
theorem St.c2 (h : St w base b rb sl s off p out most) : w.cell? ⟨b, 2, none⟩ = some (.int .i64 (most : Int)) := by rw [cell_blk h.blk]; rfl
theorem St.len (h : St w base b rb sl s off p out most) : sl.len = out.length := by rw [h.own.len, List.length_map]
/-- The reader went on. -/
theorem St.read (h : St w base b rb sl s off p out most) {p' : Nat} (hf : Fr (· = rb) w w2) (hr : Rd w2 rb s (8 * off + p') off) : St w2 base b rb sl s off p' out most :=
  ⟨hf.keep h.blk (fun e => h.ne e.symm), h.own.keep hf (fun x hx e => by have := (h.own.blk hx).1; have := h.hrb; omega), hr, h.hb, h.hrb, h.ne, Nat.le_trans h.hbase hf.size, h.fit, h.small⟩
theorem St.keep (h : St w base b rb sl s off p out most) {X : Nat → Prop} (hf : Fr X w w2) (hx : ∀ k, k < w.heap.size → ¬ X k) : St w2 base b rb sl s off p out most :=
  ⟨hf.keep h.blk (hx _ (lt_blk h.blk)), h.own.keep hf (fun x hxx => hx _ (h.own.blk hxx).2), h.rd.keep hf (hx _ h.rd.lt), h.hb, h.hrb, h.ne, Nat.le_trans h.hbase hf.size, h.fit, h.small⟩
theorem St.drew (h : St w base b rb sl s off p out most) (d : Drew w w2) : St w2 base b rb sl s off p out most := h.keep (.drew (fun _ => False) d) (by simp)
/-- Bytes more. -/
theorem St.more (h : St w base b rb sl s off p out most) {sl' : Sl} {out' : List UInt8} {w3 : World} (ho : Vc.Own w2 base T_uint8 sl' (byteV out')) (hf : Fr (At sl) w w2) (h3 : w3 = w2.setCell ⟨b, 1, none⟩ (.slice sl'.a sl'.len sl'.cap)) (hfit : out'.length ≤ most) :
    Wr w2 ⟨b, 1, none⟩ ∧ St w3 base b rb sl' s off p out' most ∧ Fr (SX b rb sl) w w3 := by
  have hnb : ¬ At sl b := fun ⟨y, hy, e⟩ => by have := (h.own.blk hy).1; have := h.hb; omega
  have hnr : ¬ At sl rb := fun ⟨y, hy, e⟩ => by have := (h.own.blk hy).1; have := h.hrb; omega
  have hb2 := hf.keep h.blk hnb
  have hs : Fr (· = b) w2 w3 := h3 ▸ Fr.set (· = b) _ (a := ⟨b, 1, none⟩) (.slice sl'.a sl'.len sl'.cap) rfl
  refine ⟨wr_blk hb2 (by simp), ⟨?_, ho.keep hs (fun x hx e => by have := (ho.blk hx).1; have := h.hb; omega), (h.rd.keep hf hnr).keep hs h.ne, h.hb, h.hrb, h.ne, Nat.le_trans h.hbase (Nat.le_trans hf.size hs.size), hfit, h.small⟩,
    (hf.mono (Y := SX b rb sl) fun k _ hk => .inr (.inr hk)).trans' (hs.mono fun k _ hk => .inl hk)⟩
  rw [h3]; exact set_blk hb2 1 _
end
end Go.Proofs.YtllegkmadljmaaaGreatDoor
namespace Go.Proofs.YtllegkmadljmaaaGreatDoor
open Go Vc BitsM HuffM Go.Proofs

/-- What a step of the inflater comes to. -/
def Rs (w w' : World) (base b rb : Nat) (sl : Sl) (s : ByteArray) (off most : Nat) (r : InfM.E (List UInt8)) (err : Int) : Prop :=
  Fr (SX b rb sl) w w' ∧ match r with
  | .error e => err = (e : Int) ∧ e ≠ 0
  | .ok (out, p) => err = 0 ∧ ∃ sl', St w' base b rb sl' s off p out most ∧ Since w sl sl'
theorem iv_snoc (l : List Int) (x : Int) : iv l ++ [.int .i64 x] = iv (l ++ [x]) := by simp [iv]
theorem put_spec {w : World} {base b rb off p most c : Nat} {sl : Sl} {s : ByteArray} {out : List UInt8} (h : St w base b rb sl s off p out most) (hc : c < 256) :
    Calls Tryz.prog F_inflate_state_put #[.pointer (some ⟨b, 0, none⟩), .int .u8 (c : Int)] w fun e w' =>
      ∃ err : Int, e = .returned (.int .i64 err) ∧ Rs w w' base b rb sl s off most (if out.length = most then .error 2 else .ok (out ++ [UInt8.ofNat c], p)) err := by
  refine vc_inflate_state_put_ok (R := fun v w' => ∃ err : Int, v = .int .i64 err ∧ Rs w w' base b rb sl s off most (if out.length = most then .error 2 else .ok (out ++ [UInt8.ofNat c], p)) err) ?_ (fun v w' ⟨e, h⟩ => ⟨e, by rw [h.1], h.2⟩)
  have hl := h.len
  refine ⟨_, h.c1, _, h.c2, fun w3 d => ⟨fun heq => ?_, fun hne => ?_⟩⟩
  · have : out.length = most := by have := eq_of_beq heq; omega
    rw [if_pos this]
    exact ⟨2, rfl, .drew _ d, rfl, by decide⟩
  · have hne : ¬ out.length = most := fun hh => by rw [hl, hh] at hne; simp at hne
    rw [if_neg hne]
    have h3 := h.drew d
    have hfit := h.fit
    have hsm := h.small
    refine ⟨_, h3.c1, fun w5 h5 => ?_⟩
    have hbl : (byteV out).length = out.length := List.length_map _
    obtain ⟨w6, l7, hr, ho, hf, hs⟩ := append_one' elByte h3.own (v := .int .u8 (c : Int)) rfl (by rw [hbl]; unfold maxLen; omega) (by rw [hbl]; omega) h3.hbase h5
    rw [byteV_snoc out c hc] at ho
    refine ⟨w6, l7, hr, ?_⟩
    obtain ⟨hw, _, _⟩ := h3.more ho hf rfl (by rw [List.length_append]; simp; omega)
    refine ⟨hw, fun w8 h8 => ?_⟩
    obtain ⟨_, hst, hfr⟩ := h3.more ho hf h8 (by rw [List.length_append]; simp; omega)
    exact ⟨0, rfl, (Fr.drew _ d).trans' hfr, rfl, l7, hst, fun y hy => by have := hs y hy; rw [d.heap] at this; exact this⟩

theorem Tab.wide {w : World} {lo hi lo' hi' b : Nat} {ls : List Nat} (h : Tab w lo hi b ls) (h1 : lo' ≤ lo) (h2 : hi ≤ hi') : Tab w lo' hi' b ls := by
  obtain ⟨l1, l2, ht, hb, hh⟩ := h.at_
  exact ⟨h.fits, h.gap, h.small, l1, l2, ⟨Nat.le_trans h1 ht.hlo, ht.blk, ht.o1.mono h1, ht.b1, ht.o2⟩, by omega, fun x hx => by have := hh x hx; omega⟩

def fixN (i : Nat) : Nat := if i < 144 ∨ 280 ≤ i then 8 else if i < 256 then 9 else 7
theorem fixedLit_eq : InfM.fixedLit = (List.range 288).map fixN := by decide +kernel
theorem fixedDist_eq : InfM.fixedDist = (List.range 32).map fun _ => 5 := by decide +kernel
theorem fixedLit_chk : InfM.chkN InfM.fixedLit = 0 := by unfold InfM.chkN; decide +kernel
theorem fixedDist_chk : InfM.chkN InfM.fixedDist = 0 := by unfold InfM.chkN; decide +kernel
theorem range_snoc (f : Nat → Int) (n : Nat) : iv ((List.range n).map f) ++ [.int .i64 (f n)] = iv ((List.range (n + 1)).map f) := by
  rw [iv_snoc, List.range_succ, List.map_append]; rfl

/-- The tables of a fixed block. -/
theorem fixed_spec (w : World) : Calls Tryz.prog F_inflate_fixed #[] w fun e w' =>
    ∃ lb db, e = .returned (.tuple #[.pointer (some ⟨lb, 0, none⟩), .pointer (some ⟨db, 0, none⟩)]) ∧ Tab w' w.heap.size w'.heap.size lb InfM.fixedLit ∧ Tab w' w.heap.size w'.heap.size db InfM.fixedDist ∧ Fr (fun _ => False) w w' := by
  refine vc_inflate_fixed_ok (R := fun v w' => ∃ lb db, v = .tuple #[.pointer (some ⟨lb, 0, none⟩), .pointer (some ⟨db, 0, none⟩)] ∧ Tab w' w.heap.size w'.heap.size lb InfM.fixedLit ∧ Tab w' w.heap.size w'.heap.size db InfM.fixedDist ∧ Fr (fun _ => False) w w') ?_ (fun v w' ⟨lb, db, h⟩ => ⟨lb, db, by rw [h.1], h.2⟩)
  have step : ∀ {w8 : World} {l3 : Sl} {n : Nat} (f : Nat → Int), Vc.Own w8 w.heap.size T_int l3 (iv ((List.range n).map f)) → w.heap.size ≤ w8.heap.size → n ≤ 400 → ∀ z, f n = z → ∀ w9, w9 = w8.alloc (.cells #[.int .i64 z] T_int) →
      ∃ w10 l11, (Builtin.append_ #[T_S_int, T_S_int] T_S_int #[.slice l3.a l3.len l3.cap, .slice (some ⟨w8.heap.size, 0, none⟩) 1 1]).run Tryz.prog w9 = .ok (.slice l11.a l11.len l11.cap) w10 ∧ Vc.Own w10 w.heap.size T_int l11 (iv ((List.range (n + 1)).map f)) ∧ Fr (At l3) w8 w10 := by
    intro w8 l3 n f ho hs hn z hz w9 h9
    obtain ⟨w10, l11, hr, ho2, hf2, _⟩ := append_one' elInt ho (v := .int .i64 z) rfl (by simp [maxLen]; omega) (by simp; omega) hs h9
    rw [← hz, range_snoc] at ho2
    exact ⟨w10, l11, hr, ho2, hf2⟩
  have elim : ∀ {w8 w10 : World} {l3 : Sl} {xs : List Value}, Vc.Own w8 w.heap.size T_int l3 xs → Fr (fun _ => False) w w8 → Fr (At l3) w8 w10 → Fr (fun _ => False) w w10 := fun ho hf hf2 => hf.trans hf2 (fun k hk ⟨y, hy, e⟩ => by have := (ho.blk hy).1; omega)
  refine ⟨fun l i w5 => ∃ n : Nat, i = (n : Int) ∧ n ≤ 288 ∧ Vc.Own w5 w.heap.size T_int l (iv ((List.range n).map fun k => (fixN k : Int))) ∧ Fr (fun _ => False) w w5, fun l i w5 => 288 - i.toNat, ⟨0, rfl, by omega, .nil _ _ _, .refl _ _⟩, ?_⟩
  rintro l3 i w5 ⟨n, rfl, hn, ho, hf⟩
  have e3 : IntKind.i64.wrap ((n : Int) + 1) = ((n + 1 : Nat) : Int) := by rw [wrap_i64 (by omega) (by omega)]; omega
  rw [e3]
  refine ⟨fun hlt => ?_, fun hge => ?_⟩
  · have hlt := of_decide_eq_true hlt
    have key : ∀ z : Int, (fixN n : Int) = z → ∀ w9, w9 = w5.alloc (.cells #[.int .i64 z] T_int) →
        ∃ w10 l11, (Builtin.append_ #[T_S_int, T_S_int] T_S_int #[.slice l3.a l3.len l3.cap, .slice (some ⟨w5.heap.size, 0, none⟩) 1 1]).run Tryz.prog w9 = .ok (.slice l11.a l11.len l11.cap) w10 ∧
          ((∃ m : Nat, ((n + 1 : Nat) : Int) = (m : Int) ∧ m ≤ 288 ∧ Vc.Own w10 w.heap.size T_int l11 (iv ((List.range m).map fun k => (fixN k : Int))) ∧ Fr (fun _ => False) w w10) ∧ 288 - (((n + 1 : Nat) : Int)).toNat < 288 - ((n : Int)).toNat) := fun z hz w9 h9 => by
      obtain ⟨w10, l11, hr, ho2, hf2⟩ := step (fun k => (fixN k : Int)) ho hf.size (by omega) z hz w9 h9
      exact ⟨w10, l11, hr, ⟨n + 1, rfl, by omega, ho2, elim ho hf hf2⟩, by omega⟩
    refine ⟨fun c w8 => w8 = w5 ∧ (c = true ↔ (n < 144 ∨ 280 ≤ n)), ⟨fun h1 => ⟨rfl, ?_⟩, fun h1 => ⟨rfl, ?_⟩⟩, ?_⟩
    · have h1' := of_decide_eq_true h1
      rw [h1]; exact ⟨fun _ => by omega, fun _ => rfl⟩
    · have h1' := of_decide_eq_false h1
      rw [decide_eq_true_eq]; omega
    · rintro c w8 ⟨rfl, hc⟩
      refine ⟨fun h1 => ?_, fun h1 => ⟨fun h2 => ?_, fun h2 => ?_⟩⟩
      · exact key 8 (by unfold fixN; rw [if_pos (hc.1 h1)]; rfl)
      · have h2 := of_decide_eq_true h2
        exact key 9 (by unfold fixN; rw [if_neg (fun h => by rw [hc.2 h] at h1; cases h1), if_pos (by omega)]; rfl)
      · have h2 := of_decide_eq_false h2
        exact key 7 (by unfold fixN; rw [if_neg (fun h => by rw [hc.2 h] at h1; cases h1), if_neg (by omega)]; rfl)
  · have hge := of_decide_eq_false hge
    have hn8 : n = 288 := by omega
    have hol : Vc.Own w5 w.heap.size T_int l3 (iv (InfM.fixedLit.map Int.ofNat)) := by
      rw [fixedLit_eq, List.map_map]; rw [hn8] at ho; exact ho
    have hll : l3.len = 288 := by rw [ho.len, hn8]; simp
    clear ho
    refine ⟨fun l i w5' => ∃ n : Nat, i = (n : Int) ∧ n ≤ 32 ∧ Vc.Own w5' w5.heap.size T_int l (iv ((List.range n).map fun _ => (5 : Int))) ∧ Fr (fun _ => False) w5 w5', fun l i w5 => 32 - i.toNat, ⟨0, rfl, by omega, .nil _ _ _, .refl _ _⟩, ?_⟩
    rintro l20 i w22 ⟨m, rfl, hm, ho, hf2⟩
    have e3 : IntKind.i64.wrap ((m : Int) + 1) = ((m + 1 : Nat) : Int) := by rw [wrap_i64 (by omega) (by omega)]; omega
    rw [e3]
    refine ⟨fun hlt w23 h23 => ?_, fun hge => ?_⟩
    · have hlt := of_decide_eq_true hlt
      obtain ⟨w10, l11, hr, ho2, hf3, _⟩ := append_one' elInt ho (v := .int .i64 5) rfl (by simp [maxLen]; omega) (by simp; omega) hf2.size h23
      rw [range_snoc (fun _ => (5 : Int))] at ho2
      exact ⟨w10, l11, hr, ⟨m + 1, rfl, by omega, ho2, hf2.trans hf3 (fun k hk ⟨y, hy, e⟩ => by have := (ho.blk hy).1; omega)⟩, by dsimp only; omega⟩
    · have hge := of_decide_eq_false hge
      have hm8 : m = 32 := by omega
      have hod : Vc.Own w22 w5.heap.size T_int l20 (iv (InfM.fixedDist.map Int.ofNat)) := by
        rw [fixedDist_eq, List.map_map]; rw [hm8] at ho; exact ho
      have hld : l20.len = 32 := by rw [ho.len, hm8]; simp
      have h1 := fixedLit_chk
      have h2 := fixedDist_chk
      have g1 : (InfM.fixedLit.map Int.ofNat).length = 288 := by rw [fixedLit_eq]; simp
      have g2 : (InfM.fixedDist.map Int.ofNat).length = 32 := by rw [fixedDist_eq]; simp
      unfold InfM.chkN at h1 h2
      have t1 : ∀ l : List Nat, (l.map Int.ofNat).map Int.toNat = l := fun l => by simp [List.map_map, Function.comp_def]
      generalize InfM.fixedLit = LL at hol h1 g1 ⊢
      generalize InfM.fixedDist = DD at hod h2 g2 ⊢
      have hol2 := hol.keep hf2 (by simp)
      refine (hnew_spec hol2.reads (n := l3.len) (by rw [hll, g1]) (fun x hx => (hol2.blk hx).2)).mono ?_
      rintro e w27 ⟨⟨hc, rfl⟩ | ⟨hc, lb, rfl, ht⟩, hf27⟩
      · exact absurd h1 hc
      refine ⟨_, _, rfl, ?_⟩
      have hod2 := hod.keep hf27 (by simp)
      refine (hnew_spec hod2.reads (n := l20.len) (by rw [hld, g2]) (fun x hx => (hod2.blk hx).2)).mono ?_
      rintro e w31 ⟨⟨hc', rfl⟩ | ⟨hc', db, rfl, ht2⟩, hf31⟩
      · exact absurd h2 hc'
      rw [t1] at ht ht2
      have z1 := hf.size; have z2 := hf2.size; have z3 := hf27.size; have z4 := hf31.size
      exact ⟨_, _, rfl, lb, db, rfl, (ht.keep hf31 (by simp)).wide (by omega) (by omega), ht2.wide (by omega) (Nat.le_refl _), ((hf.trans' hf2).trans' hf27).trans' hf31⟩
end Go.Proofs.YtllegkmadljmaaaGreatDoor
namespace Go.Proofs.YtllegkmadljmaaaGreatDoor
open Go Vc BitsM HuffM Go.Proofs

/-- The bits from a byte on. -/
abbrev bitsFrom (s : ByteArray) (off : Nat) : List Bool := (sbits s.data.toList).drop (8 * off)
section
variable {w w2 : World} {base b rb off p most : Nat} {sl : Sl} {s : ByteArray} {out : List UInt8}
theorem St.le (h : St w base b rb sl s off p out most) : p + 8 * off ≤ 8 * s.size := by have := h.rd.pos_le; omega
theorem bitsFrom_length (s : ByteArray) (off : Nat) : (bitsFrom s off).length = 8 * s.size - 8 * off := by
  rw [List.length_drop, sbits_length]; simp
theorem bitsFrom_drop (s : ByteArray) (off p : Nat) : (bitsFrom s off).drop p = (sbits s.data.toList).drop (8 * off + p) := List.drop_drop
/-- The next bits. -/
theorem stbits_spec (h : St w base b rb sl s off p out most) {n : Nat} (hn : n ≤ 32) :
    Calls Tryz.prog F_bitin_Reader_Bits #[.pointer (some ⟨rb, 0, none⟩), .int .i64 n] w fun e w' =>
      Fr (· = rb) w w' ∧ ((∃ v p' : Nat, InfM.take (bitsFrom s off) n p = .ok (v, p') ∧ v < 2 ^ n ∧ p' = p + n ∧ e = .returned (.tuple #[.int .u32 (v : Int), .bool true]) ∧ St w' base b rb sl s off p' out most) ∨
        (InfM.take (bitsFrom s off) n p = .error 6 ∧ e = .returned (.tuple #[.int .u32 0, .bool false]))) := by
  refine (rbits_spec h.rd hn).mono ?_
  rintro e w' ⟨rfl, hr, hf⟩
  refine ⟨hf, ?_⟩
  have hle := h.le
  have hlen := bitsFrom_length s off
  have hleft : left s (8 * off + p) = 8 * s.size - (8 * off + p) := rfl
  by_cases hy : n ≤ left s (8 * off + p)
  · rw [if_pos hy] at hr ⊢
    refine .inl ⟨nbits s (8 * off + p) n, p + n, ?_, ?_, rfl, by rw [decide_eq_true hy], h.read hf (by rw [← Nat.add_assoc]; exact hr)⟩
    · unfold InfM.take
      rw [if_pos (by omega), bitsFrom_drop, ← nbits_list]
    · unfold nbits; exact Nat.mod_lt _ (Nat.two_pow_pos n)
  · rw [if_neg hy, decide_eq_false hy]
    refine .inr ⟨?_, rfl⟩
    unfold InfM.take
    rw [if_neg (by omega)]
/-- The next symbol. -/
theorem stread_spec (h : St w base b rb sl s off p out most) {lo hi tb : Nat} {ls : List Nat} (ht : Tab w lo hi tb ls) (hrb : rb < lo ∨ hi ≤ rb) :
    Calls Tryz.prog F_huff_Table_Read #[.pointer (some ⟨tb, 0, none⟩), .pointer (some ⟨rb, 0, none⟩)] w fun e w' =>
      Fr (· = rb) w w' ∧ ((∃ x p' : Nat, InfM.sym ls (bitsFrom s off) p = .ok (x, p') ∧ p < p' ∧ x < ls.length ∧ e = .returned (.tuple #[.int .i64 (x : Int), .int .i64 0]) ∧ St w' base b rb sl s off p' out most) ∨
        ∃ err : Nat, InfM.sym ls (bitsFrom s off) p = .error err ∧ err ≠ 0 ∧ e = .returned (.tuple #[.int .i64 0, .int .i64 (err : Int)])) := by
  refine (hread_spec ht h.rd hrb).mono ?_
  rintro e w' ⟨x, err, n, rfl, hres, hr, hf⟩
  refine ⟨hf, ?_⟩
  rw [← bitsFrom_drop] at hres
  rcases InfM.sym_res ht.fits ht.gap hres with ⟨rfl, hs, h1, _, hx⟩ | ⟨he, rfl, hs⟩
  · exact .inl ⟨x, p + n, hs, by omega, hx, rfl, h.read hf (by rw [← Nat.add_assoc]; exact hr)⟩
  · exact .inr ⟨err, hs, by omega, rfl⟩
end
end Go.Proofs.YtllegkmadljmaaaGreatDoor
namespace InfM
theorem copy_succ (back : Nat) : ∀ (k : Nat) (out : List UInt8), copy back (k + 1) out = copy back k out ++ [(copy back k out).getD ((copy back k out).length - back) 0]
  | 0, _ => rfl
  | k + 1, out => by rw [copy, copy_succ back k, ← copy]
theorem copy_length (back : Nat) : ∀ (k : Nat) (out : List UInt8), (copy back k out).length = out.length + k
  | 0, _ => rfl
  | k + 1, out => by rw [copy, copy_length back k, List.length_append]; simp; omega
theorem lenBase_le : ∀ i, i ≤ 28 → (lenBase i).1 ≤ 258 ∧ (lenBase i).2 ≤ 5 := by decide +kernel
theorem distBase_le : ∀ i, i ≤ 29 → 1 ≤ (distBase i).1 ∧ (distBase i).1 ≤ 24577 ∧ (distBase i).2 ≤ 13 := by decide +kernel
end InfM
namespace Go.Proofs.YtllegkmadljmaaaGreatDoor
open Go Vc BitsM HuffM Go.Proofs
theorem repeat_spec {w : World} {base b rb off p most : Nat} {sl : Sl} {s : ByteArray} {out : List UInt8} (h : St w base b rb sl s off p out most)
    {lo hi db x : Nat} {dist : List Nat} (ht : Tab w lo hi db dist) (hrb : rb < lo ∨ hi ≤ rb) (hx : 257 ≤ x) (hx2 : x < 1000) :
    Calls Tryz.prog F_inflate_state_repeat #[.pointer (some ⟨b, 0, none⟩), .int .i64 (x : Int), .pointer (some ⟨db, 0, none⟩)] w fun e w' =>
      ∃ err : Int, e = .returned (.int .i64 err) ∧ Rs w w' base b rb sl s off most (InfM.rep dist most (bitsFrom s off) x p out) err := by
  refine vc_inflate_state_repeat_ok (R := fun v w' => ∃ err : Int, v = .int .i64 err ∧ Rs w w' base b rb sl s off most (InfM.rep dist most (bitsFrom s off) x p out) err) ?_ (fun v w' ⟨e, h⟩ => ⟨e, by rw [h.1], h.2⟩)
  generalize hB : bitsFrom s off = B
  have rsub : ∀ {w1 w2 : World}, Fr (· = rb) w1 w2 → Fr (SX b rb sl) w1 w2 := fun hf => hf.mono fun k _ hk => .inr (.inl hk)
  refine ⟨fun hgt => ?_, fun hle => ?_⟩
  · have hgt := of_decide_eq_true hgt
    rw [InfM.rep, if_pos (by omega)]
    exact ⟨3, rfl, .refl _ _, rfl, by decide⟩
  have hle := of_decide_eq_false hle
  have hx285 : x ≤ 285 := by omega
  have e1 : IntKind.i64.wrap ((x : Int) - 257) = ((x - 257 : Nat) : Int) := by rw [wrap_i64 (by omega) (by omega)]; omega
  rw [e1, InfM.rep, if_neg (by omega)]
  obtain ⟨hl1, hl2⟩ := InfM.lenBase_le (x - 257) (by omega)
  refine (lbase_spec (x - 257) (by omega) w).mono ?_
  rintro e w2 ⟨rfl, hw2⟩
  replace hw2 := hw2.symm
  subst hw2
  generalize InfM.lenBase (x - 257) = L at hl1 hl2 ⊢
  refine ⟨_, _, rfl, _, h.c0, ?_⟩
  refine (stbits_spec h (n := L.2) (by omega)).mono ?_
  rw [hB]
  rintro e w7 ⟨hf7, ⟨more, p7, htk, hmore, hp7, rfl, h7⟩ | ⟨htk, rfl⟩⟩
  rotate_left
  · rw [htk]
    exact ⟨_, _, rfl, fun _ => ⟨6, rfl, rsub hf7, rfl, by decide⟩, fun hh => by cases hh⟩
  simp only [htk]
  have hm5 : 2 ^ L.2 ≤ 2 ^ 5 := Nat.pow_le_pow_right (by decide) hl2
  refine ⟨_, _, rfl, fun hh => (by cases hh), fun _ => ⟨_, h7.c0, ?_⟩⟩
  have ht7 := ht.keep hf7 (fun k h1 h2 hk => by omega)
  refine (stread_spec h7 ht7 hrb).mono ?_
  rw [hB]
  rintro e w12 ⟨hf12, ⟨d, p12, hsy, hp12, hd, rfl, h12⟩ | ⟨err, hsy, hne, rfl⟩⟩
  rotate_left
  · rw [hsy]
    refine ⟨_, _, rfl, fun _ => ⟨err, rfl, rsub (hf7.trans' hf12), rfl, hne⟩, fun hh => ?_⟩
    exact absurd hh (by simpa using hne)
  simp only [hsy]
  refine ⟨_, _, rfl, fun hh => (by simp at hh), fun _ => ⟨fun hgt => ?_, fun hle => ?_⟩⟩
  · have hgt := of_decide_eq_true hgt
    rw [if_pos (by omega)]
    exact ⟨3, rfl, rsub (hf7.trans' hf12), rfl, by decide⟩
  have hle := of_decide_eq_false hle
  rw [if_neg (by omega)]
  obtain ⟨hd1, hd2, hd3⟩ := InfM.distBase_le d (by omega)
  refine (dbase_spec d (by omega) w12).mono ?_
  rintro e w16 ⟨rfl, hw16⟩
  replace hw16 := hw16.symm
  subst hw16
  generalize InfM.distBase d = D at hd1 hd2 hd3 ⊢
  refine ⟨_, _, rfl, _, h12.c0, ?_⟩
  refine (stbits_spec h12 (n := D.2) (by omega)).mono ?_
  rw [hB]
  rintro e w21 ⟨hf21, ⟨far, p21, htk2, hfar, hp21, rfl, h21⟩ | ⟨htk2, rfl⟩⟩
  rotate_left
  · rw [htk2]
    exact ⟨_, _, rfl, fun _ => ⟨6, rfl, rsub ((hf7.trans' hf12).trans' hf21), rfl, by decide⟩, fun hh => by cases hh⟩
  simp only [htk2]
  have hm13 : 2 ^ D.2 ≤ 2 ^ 13 := Nat.pow_le_pow_right (by decide) hd3
  have hfr21 := (hf7.trans' hf12).trans' hf21
  have eback : IntKind.i64.wrap ((D.1 : Int) + IntKind.i64.wrap (far : Int)) = ((D.1 + far : Nat) : Int) := by
    rw [wrap_i64 (x := (far : Int)) (by omega) (by omega), wrap_i64 (by omega) (by omega)]; omega
  have en : IntKind.i64.wrap ((L.1 : Int) + IntKind.i64.wrap (more : Int)) = ((L.1 + more : Nat) : Int) := by
    rw [wrap_i64 (x := (more : Int)) (by omega) (by omega), wrap_i64 (by omega) (by omega)]; omega
  refine ⟨_, _, rfl, fun hh => (by cases hh), fun _ => ?_⟩
  rw [eback, en]
  have hback1 : 1 ≤ D.1 + far := by omega
  have hback2 : D.1 + far ≤ 40000 := by omega
  have hn2 : L.1 + more ≤ 300 := by omega
  generalize D.1 + far = back at hback1 hback2 ⊢
  generalize L.1 + more = n at hn2 ⊢
  refine ⟨_, h21.c1, fun hgt => ?_, fun hle => ?_⟩
  · have hgt := of_decide_eq_true hgt
    rw [h21.len] at hgt
    rw [if_pos (by omega)]
    exact ⟨3, rfl, rsub hfr21, rfl, by decide⟩
  have hle := of_decide_eq_false hle
  rw [h21.len] at hle
  rw [if_neg (by omega)]
  have hout := h21.fit
  have hmost := h21.small
  refine ⟨fun i w28 => ∃ k : Nat, i = (k : Int) ∧ k ≤ n ∧ ∃ sl', St w28 base b rb sl' s off p21 (InfM.copy back k out) most ∧ Since w sl sl' ∧ Fr (SX b rb sl) w w28, fun i w28 => n - i.toNat, ⟨0, rfl, Nat.zero_le _, sl, h21, .refl _ _, rsub hfr21⟩, ?_⟩
  rintro i w28 ⟨k, rfl, hk, sl', h28, hs28, hf28⟩
  have e3 : IntKind.i64.wrap ((k : Int) + 1) = ((k + 1 : Nat) : Int) := by rw [wrap_i64 (by omega) (by omega)]; omega
  rw [e3]
  have hcl := InfM.copy_length back k out
  have hcs := InfM.copy_succ back k out
  refine ⟨fun hlt w29 d29 => ?_, fun hge => ?_⟩
  · have hlt := of_decide_eq_true hlt
    have h29 := h28.drew d29
    have hlen := h29.len
    have eidx : IntKind.i64.wrap ((sl'.len : Int) - (back : Int)) = ((out.length + k - back : Nat) : Int) := by
      rw [hlen, hcl, wrap_i64 (by omega) (by omega)]; omega
    refine ⟨_, h29.c1, _, h29.c1, ?_⟩
    rw [eidx]
    refine ⟨⟨by omega, by rw [hlen, hcl]; omega⟩, ?_⟩
    rw [hcl] at hcs
    generalize hcc : InfM.copy back k out = cur at hcl hcs h28 h29 hlen
    have hlt2 : out.length + k - back < cur.length := by omega
    obtain ⟨a, ha, hc⟩ := h29.own.reads _ _ (show (byteV cur)[out.length + k - back]? = some (.int .u8 ((cur[out.length + k - back]'hlt2).toNat : Int)) by simp [byteV, hlt2])
    refine ⟨a, ha, _, by rw [Int.toNat_natCast, Nat.mul_one]; exact hc, ?_⟩
    refine (put_spec h29 (cur[out.length + k - back]'hlt2).toNat_lt).mono ?_
    rintro e w35 ⟨err, rfl, hf35, hr35⟩
    have hfw : Fr (SX b rb sl) w w35 := (hf28.trans' (.drew _ d29)).trans hf35 fun j hj hsx => by
      rcases hsx with h | h | ⟨y, hy, e⟩
      · exact .inl h
      · exact .inr (.inl h)
      · rcases hs28 y hy with ⟨z, hz, hb⟩ | hn
        · exact .inr (.inr ⟨z, hz, by omega⟩)
        · omega
    refine ⟨_, rfl, fun hne => ?_, fun heq => ?_⟩
    · by_cases hfull : cur.length = most
      · rw [if_pos hfull] at hr35
        obtain ⟨rfl, _⟩ := hr35
        rw [if_pos (by omega)]
        exact ⟨2, rfl, hfw, rfl, by decide⟩
      · rw [if_neg hfull] at hr35
        obtain ⟨rfl, _⟩ := hr35
        simp at hne
    · by_cases hfull : cur.length = most
      · rw [if_pos hfull] at hr35
        obtain ⟨rfl, _⟩ := hr35
        simp at heq
      · rw [if_neg hfull] at hr35
        obtain ⟨_, sl2, h35, hs35⟩ := hr35
        have hg : cur.getD (out.length + k - back) 0 = cur[out.length + k - back]'hlt2 := by simp [List.getD, hlt2]
        rw [UInt8.ofNat_toNat, ← hg, ← hcs] at h35
        exact ⟨⟨k + 1, rfl, by omega, sl2, h35, hs28.trans hs35 (hf28.trans' (.drew _ d29)).size, hfw⟩, by dsimp only; omega⟩
  · have hge := of_decide_eq_false hge
    have hkn : k = n := by omega
    subst hkn
    have := h28.fit
    rw [if_neg (by omega)]
    exact ⟨0, rfl, hf28, rfl, sl', h28, hs28⟩
end Go.Proofs.YtllegkmadljmaaaGreatDoor
namespace Go.Proofs.YtllegkmadljmaaaGreatDoor
open Go Vc BitsM HuffM Go.Proofs

theorem sbits_take (l : List UInt8) (k : Nat) : sbits (l.take k) = (sbits l).take (8 * k) := by
  by_cases h : k ≤ l.length
  · have h2 := sbits_append (l.take k) (l.drop k)
    rw [List.take_append_drop] at h2
    rw [h2, List.take_append_of_le_length (by rw [sbits_length, List.length_take]; omega), List.take_of_length_le (l := sbits (l.take k)) (by rw [sbits_length, List.length_take]; omega)]
  · rw [List.take_of_length_le (by omega), List.take_of_length_le (by rw [sbits_length]; omega)]
theorem extract_list (s : ByteArray) (i j : Nat) : (s.extract i j).data.toList = (s.data.toList.drop i).take (j - i) := by
  rw [ByteArray.data_extract, Array.toList_extract, List.extract_eq_take_drop]
theorem little_bits (s : ByteArray) (i j : Nat) : V (s.extract i j) (s.extract i j).size = num (((sbits s.data.toList).drop (8 * i)).take (8 * (j - i))) := by
  rw [← num_sbits, extract_list, sbits_take, sbits_drop]
theorem bytesAt_of (B : List Bool) (n p : Nat) : InfM.bytesAt B n p = bytesOf (B.drop p) n := by
  unfold InfM.bytesAt bytesOf
  refine List.map_congr_left fun i _ => ?_
  rw [← List.drop_drop, ← byteOf_nat, UInt8.ofNat_toNat]
theorem bytesAt_sbits (s : ByteArray) (q n : Nat) : InfM.bytesAt (sbits s.data.toList) n (8 * q) = (s.data.toList.drop q).take n ∨ s.size < q + n := by
  by_cases h : q + n ≤ s.size
  · left
    have := bytesOf_sbits [] 0 rfl (s.data.toList.drop q) n (by rw [List.length_drop]; simp; omega)
    rw [bytesAt_of, ← sbits_drop]
    simpa [bytesOf] using this
  · right; omega
theorem xor_ones (n : Nat) (h : n < 65536) : n ^^^ 65535 = 65535 - n := by
  have h2 := congrArg BitVec.toNat (BitVec.xor_allOnes (x := BitVec.ofNat 16 n))
  rw [BitVec.toNat_xor, BitVec.toNat_not, BitVec.toNat_allOnes, BitVec.toNat_ofNat, Nat.mod_eq_of_lt h] at h2
  simpa using h2

theorem num16 (L : List Bool) : num (L.take 16) < 65536 := by
  have h1 := num_lt (L.take 16)
  have h2 : (L.take 16).length ≤ 16 := by rw [List.length_take]; omega
  have h3 := Nat.pow_le_pow_right (n := 2) (by decide) h2
  omega
/-- A stored block. -/
theorem stored_spec {w : World} {base b rb off p most : Nat} {sl : Sl} {s : ByteArray} {out : List UInt8} (h : St w base b rb sl s off p out most) :
    Calls Tryz.prog F_inflate_state_stored #[.pointer (some ⟨b, 0, none⟩)] w fun e w' =>
      ∃ err : Int, e = .returned (.int .i64 err) ∧ Rs w w' base b rb sl s off most (InfM.stored most (bitsFrom s off) p out) err := by
  refine vc_inflate_state_stored_ok (R := fun v w' => ∃ err : Int, v = .int .i64 err ∧ Rs w w' base b rb sl s off most (InfM.stored most (bitsFrom s off) p out) err) ?_ (fun v w' ⟨e, h⟩ => ⟨e, by rw [h.1], h.2⟩)
  have rsub : ∀ {w1 w2 : World}, Fr (· = rb) w1 w2 → Fr (SX b rb sl) w1 w2 := fun hf => hf.mono fun k _ hk => .inr (.inl hk)
  obtain ⟨at_, hat⟩ := h.rd
  have hok := hat.ok
  have hsz := hat.sz
  clear hat
  have hle := h.le
  have hlen := bitsFrom_length s off
  obtain ⟨q, hq⟩ : ∃ q, (p + 7) / 8 = q := ⟨_, rfl⟩
  have hup : up8 (8 * off + p) = 8 * (off + q) := by unfold up8; omega
  have hup2 : up8 (8 * (off + q) + 32) = 8 * (off + q + 4) := by unfold up8; omega
  have hn16 : ∀ k, num (((bitsFrom s off).drop (8 * k)).take 16) = V (s.extract (off + k) (off + k + 2)) (s.extract (off + k) (off + k + 2)).size := fun k => by
    rw [little_bits, bitsFrom_drop, ← Nat.mul_add, show off + k + 2 - (off + k) = 2 by omega]
  have hst : InfM.stored most (bitsFrom s off) p out = (if 8 * q + 32 ≤ (bitsFrom s off).length then
      if V (s.extract (off + q) (off + q + 2)) (s.extract (off + q) (off + q + 2)).size + V (s.extract (off + (q + 2)) (off + (q + 2) + 2)) (s.extract (off + (q + 2)) (off + (q + 2) + 2)).size ≠ 65535 then .error 3
      else if 8 * q + 32 + 8 * V (s.extract (off + q) (off + q + 2)) (s.extract (off + q) (off + q + 2)).size ≤ (bitsFrom s off).length then
        if most < out.length + V (s.extract (off + q) (off + q + 2)) (s.extract (off + q) (off + q + 2)).size then .error 2
        else .ok (out ++ InfM.bytesAt (bitsFrom s off) (V (s.extract (off + q) (off + q + 2)) (s.extract (off + q) (off + q + 2)).size) (8 * q + 32), 8 * q + 32 + 8 * V (s.extract (off + q) (off + q + 2)) (s.extract (off + q) (off + q + 2)).size)
      else if most < out.length + ((bitsFrom s off).length - (8 * q + 32)) / 8 then .error 2 else .error 6
    else .error 6) := by
    unfold InfM.stored
    simp only [hq, Nat.mul_comm q 8, hn16, show 8 * q + 16 = 8 * (q + 2) by omega]
  rw [hst]
  clear hst
  have hn1 : V (s.extract (off + q) (off + q + 2)) (s.extract (off + q) (off + q + 2)).size < 65536 := by
    rw [← hn16]; exact num16 _
  have hn2 : V (s.extract (off + (q + 2)) (off + (q + 2) + 2)) (s.extract (off + (q + 2)) (off + (q + 2) + 2)).size < 65536 := by
    rw [← hn16]; exact num16 _
  refine ⟨_, h.c0, ?_⟩
  refine (rbytes_spec h.rd 4 (by omega)).mono ?_
  rw [hup, Nat.mul_div_cancel_left _ (by decide : 0 < 8)]
  have hl1 : left s (8 * (off + q)) = 8 * s.size - 8 * (off + q) := rfl
  rintro e w3 (⟨hyes, rfl, hr, hf3⟩ | ⟨hno, rfl, hr, hf3⟩)
  rotate_left
  · rw [if_neg (by omega)]
    exact ⟨_, _, rfl, fun _ => ⟨6, rfl, rsub hf3, rfl, by decide⟩, fun hh => by cases hh⟩
  rw [if_pos (by omega)]
  have h3 : St w3 base b rb sl s off (8 * q + 32) out most := h.read hf3 (by rw [show 8 * off + (8 * q + 32) = 8 * (off + q) + 8 * (4 : Int).toNat by simp; omega]; exact hr)
  have hsz4 : (s.extract (off + q) (off + q + (4 : Int).toNat)).size = 4 := by simp; omega
  have hh1 : (s.extract (off + q) (off + q + (4 : Int).toNat)).extract 0 (Int.toNat 2) = s.extract (off + q) (off + q + 2) := by
    rw [ByteArray.extract_extract]; congr 1; simp
  have hh2 : (s.extract (off + q) (off + q + (4 : Int).toNat)).extract (Int.toNat 2) (s.extract (off + q) (off + q + (4 : Int).toNat)).size = s.extract (off + (q + 2)) (off + (q + 2) + 2) := by
    rw [hsz4, ByteArray.extract_extract]; congr 1; simp; omega
  refine ⟨_, _, rfl, fun hh => (by cases hh), fun _ => ⟨⟨by decide, by omega⟩, ?_⟩⟩
  rw [hh1, hh2]
  have hz1 : (s.extract (off + q) (off + q + 2)).size ≤ 8 := by simp; omega
  have hz2 : (s.extract (off + (q + 2)) (off + (q + 2) + 2)).size ≤ 8 := by simp; omega
  refine (little_spec _ hz1 w3).mono ?_
  rintro e w7 ⟨rfl, hw7⟩
  replace hw7 := hw7.symm
  subst hw7
  refine ⟨_, rfl, ⟨by decide, by omega⟩, ?_⟩
  refine (little_spec _ hz2 w3).mono ?_
  rintro e w10 ⟨rfl, hw10⟩
  replace hw10 := hw10.symm
  subst hw10
  refine ⟨_, rfl, ?_⟩
  generalize V (s.extract (off + q) (off + q + 2)) (s.extract (off + q) (off + q + 2)).size = n at hn1 ⊢
  generalize V (s.extract (off + (q + 2)) (off + (q + 2) + 2)) (s.extract (off + (q + 2)) (off + (q + 2) + 2)).size = m at hn2 ⊢
  have en : IntKind.i64.wrap (n : Int) = (n : Int) := wrap_i64 (by omega) (by omega)
  have em : IntKind.i64.wrap (m : Int) = (m : Int) := wrap_i64 (by omega) (by omega)
  have ex : IntKind.i64.wrap (((BitVec.ofInt 64 (n : Int) ^^^ BitVec.ofInt 64 65535).toNat : Nat) : Int) = ((65535 - n : Nat) : Int) := by
    have := xor_nat 64 n 65535 (by omega) (by decide)
    rw [show ((65535 : Nat) : Int) = 65535 from rfl] at this
    rw [this, xor_ones n hn1, wrap_i64 (by omega) (by omega)]
  rw [en, em, ex]
  refine ⟨fun hne => ?_, fun heq => ?_⟩
  · have : ((65535 - n : Nat) : Int) ≠ (m : Int) := by simpa using hne
    rw [if_pos (by omega)]
    exact ⟨3, rfl, rsub hf3, rfl, by decide⟩
  have heq : ((65535 - n : Nat) : Int) = (m : Int) := by simpa using heq
  rw [if_neg (by omega)]
  refine ⟨_, h3.c0, ?_⟩
  refine (rbytes_spec h3.rd (n : Int) (by omega)).mono ?_
  rw [show 8 * off + (8 * q + 32) = 8 * (off + q) + 32 by omega, hup2, Nat.mul_div_cancel_left _ (by decide : 0 < 8), Int.toNat_natCast]
  have hl2 : left s (8 * (off + q + 4)) = 8 * s.size - 8 * (off + q + 4) := rfl
  have fin_ : ∀ (ok : Bool) (k : Nat) (w14 w32 : World) (t : ByteArray) (err : Nat) (r : InfM.E (List UInt8)), Fr (· = rb) w w32 → off + q + 4 + k ≤ s.size → t = s.extract (off + q + 4) (off + q + 4 + k) → St w32 base b rb sl s off (8 * q + 32 + 8 * k) out most →
      (most < out.length + k → r = .error 2) → (¬ most < out.length + k → ok = true → r = .ok (out ++ InfM.bytesAt (bitsFrom s off) k (8 * q + 32), 8 * q + 32 + 8 * k)) → (¬ most < out.length + k → ok = false → r = .error 6) →
      ∃ n33, w32.cell? ⟨b, 2, none⟩ = some (.int .i64 n33) ∧ ∃ l34 : Sl, w32.cell? ⟨b, 1, none⟩ = some (.slice l34.a l34.len l34.cap) ∧ ∀ w35, Drew w32 w35 →
        ((decide ((t.size : Int) > IntKind.i64.wrap (n33 - (l34.len : Int))) = true → ∃ err : Int, Value.int .i64 2 = .int .i64 err ∧ Rs w w35 base b rb sl s off most r err) ∧
         (decide ((t.size : Int) > IntKind.i64.wrap (n33 - (l34.len : Int))) = false → ∃ l36 : Sl, w35.cell? ⟨b, 1, none⟩ = some (.slice l36.a l36.len l36.cap) ∧ ∃ w37, ∃ l38 : Sl,
            (Builtin.append_ #[T_S_uint8, T_string] T_S_uint8 #[.slice l36.a l36.len l36.cap, .string t]).run Tryz.prog w35 = .ok (.slice l38.a l38.len l38.cap) w37 ∧ (Wr w37 ⟨b, 1, none⟩ ∧
              ∀ w39, w39 = w37.setCell ⟨b, 1, none⟩ (.slice l38.a l38.len l38.cap) →
                (((!ok) = true → ∃ err : Int, Value.int .i64 6 = .int .i64 err ∧ Rs w w39 base b rb sl s off most r err) ∧
                 ((!ok) = false → ∃ err : Int, Value.int .i64 0 = .int .i64 err ∧ Rs w w39 base b rb sl s off most r err))))) := by
    intro ok k w14 w32 t err r hf32 hk ht h32 hr2 hr0 hr6
    have htsz : t.size = k := by rw [ht]; simp; omega
    have hfit := h32.fit
    have hsm := h32.small
    refine ⟨_, h32.c2, _, h32.c1, fun w35 d35 => ?_⟩
    have h35 := h32.drew d35
    have hf35 : Fr (· = rb) w w35 := hf32.trans' (.drew _ d35)
    rw [h32.len, wrap_i64 (by omega) (by omega), htsz]
    refine ⟨fun hgt => ?_, fun hle => ?_⟩
    · have hgt := of_decide_eq_true hgt
      rw [hr2 (by omega)]
      exact ⟨2, rfl, rsub hf35, rfl, by decide⟩
    · have hle := of_decide_eq_false hle
      have hnl : ¬ most < out.length + k := by omega
      have hbl : (byteV out).length = out.length := List.length_map _
      obtain ⟨w37, l38, hr, ho, hf, hs⟩ := append_str elByte (by kernel_rfl : Tryz.prog.underlying T_string = some .string) h35.own t (by rw [hbl]; omega) h35.hbase
      have htl : t.data.toList = (s.data.toList.drop (off + q + 4)).take k := by rw [ht, extract_list, show off + q + 4 + k - (off + q + 4) = k by omega]
      have hba : InfM.bytesAt (bitsFrom s off) k (8 * q + 32) = t.data.toList := by
        rw [bytesAt_of, bitsFrom_drop, show 8 * off + (8 * q + 32) = 8 * (off + q + 4) by omega, ← bytesAt_of, htl]
        exact (bytesAt_sbits s (off + q + 4) k).resolve_right (by omega)
      rw [show byteV out ++ byteV t.data.toList = byteV (out ++ t.data.toList) by simp [byteV]] at ho
      have hlt : (out ++ t.data.toList).length ≤ most := by rw [List.length_append]; simp [htsz]; omega
      refine ⟨_, h35.c1, w37, l38, hr, (h35.more ho hf rfl hlt).1, fun w39 h39 => ?_⟩
      obtain ⟨_, hst, hfr⟩ := h35.more ho hf h39 hlt
      refine ⟨fun hok => ?_, fun hok => ?_⟩
      · rw [hr6 hnl (by simpa using hok)]
        exact ⟨6, rfl, (rsub hf35).trans' hfr, rfl, by decide⟩
      · rw [hr0 hnl (by simpa using hok), hba]
        refine ⟨0, rfl, (rsub hf35).trans' hfr, rfl, l38, hst, fun y hy => ?_⟩
        rcases hs y hy with hz | hn
        · exact .inl hz
        · exact .inr (Nat.le_trans hf35.size hn)
  rintro e w14 (⟨hyes, rfl, hr14, hf14⟩ | ⟨hno, rfl, hr14, hf14⟩)
  · rw [if_pos (by omega)]
    have h14 : St w14 base b rb sl s off (8 * q + 32 + 8 * n) out most := h3.read hf14 (by rw [show 8 * off + (8 * q + 32 + 8 * n) = 8 * (off + q + 4) + 8 * n by omega]; exact hr14)
    refine ⟨_, _, rfl, fun t w32 => t = s.extract (off + q + 4) (off + q + 4 + n) ∧ w32 = w14, ⟨⟨fun hh => (by cases hh), fun _ => ⟨rfl, rfl⟩⟩, ?_⟩⟩
    rintro t w32 ⟨ht, rfl⟩
    exact fin_ true n w32 w32 t 0 _ (hf3.trans' hf14) (by omega) ht h14 (fun h => if_pos h) (fun h _ => if_neg h) (fun _ h => by cases h)
  · rw [if_neg (by omega)]
    have h14 : St w14 base b rb sl s off (8 * q + 32) out most := h3.read hf14 (by rw [show 8 * off + (8 * q + 32) = 8 * (off + q + 4) by omega]; exact hr14)
    obtain ⟨k, hk⟩ : ∃ k, ((bitsFrom s off).length - (8 * q + 32)) / 8 = k := ⟨_, rfl⟩
    refine ⟨_, _, rfl, fun t w32 => t = s.extract (off + q + 4) (off + q + 4 + k) ∧ St w32 base b rb sl s off (8 * q + 32 + 8 * k) out most ∧ Fr (· = rb) w w32, ⟨⟨fun _ w18 d18 => ?_, fun hh => (by cases hh)⟩, ?_⟩⟩
    · have h18 := h14.drew d18
      refine ⟨fun w' => w'.heap[b]? = w18.heap[b]?, rfl, _, fun w' hw' => (by rw [cell_blk (hw'.trans h18.blk)]; rfl), _, fun w' hw' => (by rw [cell_blk (hw'.trans h18.blk)]; rfl), ?_⟩
      refine (left_spec h18.rd).mono ?_
      rintro e w25 ⟨rfl, d25⟩
      have h25 := h18.drew d25
      have hl3 : left s (8 * off + (8 * q + 32)) = 8 * s.size - (8 * off + (8 * q + 32)) := rfl
      have e8 : IntKind.i64.wrap (Int.tdiv ((left s (8 * off + (8 * q + 32)) : Nat) : Int) 8) = (k : Int) := by
        rw [Int.tdiv_eq_ediv_of_nonneg (by omega), wrap_i64 (by omega) (by omega)]; omega
      refine ⟨_, rfl, (by show w25.heap[b]? = w18.heap[b]?; rw [d25.heap]), by decide, ?_⟩
      rw [e8]
      refine (rbytes_spec h25.rd (k : Int) (by omega)).mono ?_
      rw [show 8 * off + (8 * q + 32) = 8 * (off + q) + 32 by omega, hup2, Nat.mul_div_cancel_left _ (by decide : 0 < 8), Int.toNat_natCast]
      rintro e w28 (⟨hyes, rfl, hr28, hf28⟩ | ⟨hno', rfl, hr28, hf28⟩)
      · have h28 : St w28 base b rb sl s off (8 * q + 32 + 8 * k) out most := h25.read hf28 (by rw [show 8 * off + (8 * q + 32 + 8 * k) = 8 * (off + q + 4) + 8 * k by omega]; exact hr28)
        refine ⟨_, _, rfl, ?_, rfl, h28, (((hf3.trans' hf14).trans' (.drew _ d18)).trans' (.drew _ d25)).trans' hf28⟩
        exact (hf28.blk b (lt_blk h25.blk) (fun e => h.ne e.symm)).trans (by rw [d25.heap])
      · omega
    · rintro t w32 ⟨ht, h32, hf32⟩
      rw [hk]
      exact fin_ false k w32 w32 t 0 _ hf32 (by omega) ht h32 (fun h => if_pos h) (fun _ h => by cases h) (fun h _ => if_neg h)
end Go.Proofs.YtllegkmadljmaaaGreatDoor
namespace Go.Proofs.YtllegkmadljmaaaGreatDoor
open Go Vc BitsM HuffM Go.Proofs

theorem make_ints {w : World} {base n : Nat} (hn : n ≤ 1000) (hbase : base ≤ w.heap.size) :
    ∃ w', (Instr.makeSlice T_S_int (.int .i64 (n : Int)) (.int .i64 (n : Int))).run Tryz.prog w = .ok (.slice (some ⟨w.heap.size, 0, none⟩) n n) w' ∧ Vc.Own w' base T_int ⟨some ⟨w.heap.size, 0, none⟩, n, n⟩ (nv (List.replicate n 0)) ∧ Fr (fun _ => False) w w' := by
  obtain ⟨i, hi, hi2⟩ := Option.map_eq_some_iff.1 elInt.info
  simp only [Prod.mk.injEq] at hi2
  obtain ⟨hz, hs1, hby⟩ := hi2
  obtain ⟨w', hr, ho, hg⟩ := run_makeSlice_full (P := Tryz.prog) w base T_S_int T_int i (.int .i64 0) 1 elInt.sl hi hz hs1 .i64 .i64 n (by omega) (by rw [hby]; omega) (by unfold maxLen; omega) hbase
  refine ⟨w', hr, ?_, (Fr.grown hg).mono fun k _ hk => by cases hk⟩
  have := (Vc.Own.ofRow ho).1
  rwa [show (madeCells (Value.int .i64 0).cells (n * 1)).toList = nv (List.replicate n 0) from ?_] at this
  unfold madeCells
  simp [nv, Value.cells, Nat.mod_one]
  exact List.eq_replicate_iff.2 ⟨by simp, fun b hb => by obtain ⟨x, _, rfl⟩ := List.mem_map.1 hb; rfl⟩
theorem St.keep2 {w w2 : World} {base b rb off p most : Nat} {sl : Sl} {s : ByteArray} {out : List UInt8} (h : St w base b rb sl s off p out most) {X : Nat → Prop} (hf : Fr X w w2) (h1 : ¬ X b) (h2 : ¬ X rb) (h3 : ∀ y, sl.a = some y → ¬ X y.block) : St w2 base b rb sl s off p out most :=
  ⟨hf.keep h.blk h1, h.own.keep hf h3, h.rd.keep hf h2, h.hb, h.hrb, h.ne, Nat.le_trans h.hbase hf.size, h.fit, h.small⟩
theorem St.lts {w : World} {base b rb off p most : Nat} {sl : Sl} {s : ByteArray} {out : List UInt8} (h : St w base b rb sl s off p out most) : b < w.heap.size ∧ rb < w.heap.size ∧ ∀ y, sl.a = some y → y.block < w.heap.size :=
  ⟨lt_blk h.blk, h.rd.lt, fun y hy => (h.own.blk hy).2⟩
theorem setRow_frI (X : Nat → Prop) (w : World) (g : Nat) (cs : Array Value) (h : X g) : Fr X w (w.setRow g cs) :=
  ⟨rfl, rfl, rfl, by simp [World.setRow], fun k _ hx => by
    simp only [World.setRow, Array.getElem?_modify]
    rw [if_neg (fun e => hx (by rw [← e]; exact h))]⟩
theorem one_nv (l : List Nat) : ∀ u ∈ nv l, u.oneCell' = true := fun u h => by
  obtain ⟨b, _, rfl⟩ := List.mem_map.1 h; rfl
theorem index_aggI {P : Program} {w : World} (t e : TypeId) (n : Nat) (cs : List Value) (k : IntKind) (i : Nat) (h : P.underlying t = some (.array n e)) (hs : (P.info? e).map (·.size) = some 1) (hl : cs.length = n) (hin : i < n) (ho : Vc.one P e = true) :
    (Instr.index t (.agg cs.toArray) (.int k (i : Int))).run P w = .ok (cs.getD i undef) w := by
  obtain ⟨ie, hie, hsz⟩ := Option.map_eq_some_iff.1 hs
  have hn : 0 ≤ (i : Int) ∧ (i : Int) < (n : Int) := by omega
  have hsize : ∀ w, (Go.sizeOf e).run P w = .ok 1 w := fun w => by simp [Go.sizeOf, typeInfo, hie, hsz]
  have hi : i < cs.length := by omega
  simp [Instr.index, run_underlying h, asIntOf, hin, go_sem, hsize, run_isAgg ho, Result.andThen, hi]
theorem subA_block {a : Option Addr} {c l sz : Nat} {x : Addr} (h : subA a c l sz = some x) : ∃ y, a = some y ∧ y.block = x.block := by
  unfold subA at h
  split at h
  · exact ⟨x, h, rfl⟩
  · obtain ⟨y, hy, rfl⟩ := Option.map_eq_some_iff.1 h
    exact ⟨y, hy, (add_block _ _).symm⟩
/-- The places, in their order. -/
theorem order_spec (w : World) : Calls Tryz.prog F_inflate_order #[] w fun e w' => e = .returned (.agg (nv InfM.places).toArray) ∧ Fr (fun _ => False) w w' := by
  refine vc_inflate_order_ok (R := fun v w' => v = .agg (nv InfM.places).toArray ∧ Fr (fun _ => False) w w') ?_ (fun v w' h => ⟨by rw [h.1], h.2⟩)
  intro w1 hw1
  have f1 : Fr (fun _ => False) w w1 := hw1 ▸ Fr.alloc _ _ _
  have hg : w1.heap[w.heap.size]? = some (.cells (nv (List.replicate 19 0)).toArray T_19_int (0, 0)) := by rw [hw1]; exact alloc_new _ _
  have hr := run_storeVar_row (P := Tryz.prog) w1 w.heap.size T_19_int T_19_int _ (nv InfM.places).toArray hg (by kernel_rfl) (by rfl) (by rw [Array.all_eq_true_iff_forall_mem]; intro v hv; exact one_nv _ v (by simpa using hv))
  refine ⟨w1.setRow w.heap.size (nv InfM.places).toArray, Eq.mp (by kernel_rfl) hr, ?_⟩
  have hs := setRow_heap w1 w.heap.size _ (nv InfM.places).toArray T_19_int (0, 0) hg
  have hload := load_agg (P := Tryz.prog) (t := T_19_int) (w := w1.setRow w.heap.size (nv InfM.places).toArray) (a := ⟨w.heap.size, 0, none⟩) (vs := nv InfM.places) (agg_of (by kernel_rfl)) (by kernel_rfl) (fun j v hv => by
    rw [add_lit, cell_blk hs]; simpa using hv)
  exact ⟨_, hload, rfl, f1.trans (setRow_frI (· = w.heap.size) w1 w.heap.size _ rfl) (fun q hq h => by omega)⟩
end Go.Proofs.YtllegkmadljmaaaGreatDoor
namespace InfM
noncomputable def tabs2 (B : List Bool) (nl nd p : Nat) (first : List Nat) : E (List Nat × List Nat) :=
  if chkN first ≠ 0 then .error 3
  else match clens first (nl + nd) B (nl + nd + 1) p [] with
    | .error e => .error e
    | .ok (l, p) => if l.getD 256 0 = 0 ∨ chkN (l.take nl) ≠ 0 ∨ chkN (l.drop nl) ≠ 0 then .error 3 else .ok ((l.take nl, l.drop nl), p)
noncomputable def tabs1 (B : List Bool) (nl nd nc p : Nat) : E (List Nat × List Nat) :=
  if 286 < nl ∨ 30 < nd then .error 3
  else match firsts B (places.take nc) p (List.replicate 19 0) with
    | .error e => .error e
    | .ok (first, p) => tabs2 B nl nd p first
theorem tables_ok {B : List Bool} {p h p' : Nat} (ht : take B 14 p = .ok (h, p')) : tables B p = tabs1 B (h % 32 + 257) (h / 32 % 32 + 1) (h / 1024 + 4) p' := by
  unfold tables tabs1 tabs2
  rw [ht] <;> rfl
theorem tables_err {B : List Bool} {p e : Nat} (ht : take B 14 p = .error e) : tables B p = .error e := by
  unfold tables
  rw [ht]
end InfM
namespace Go.Proofs.YtllegkmadljmaaaGreatDoor
open Go Vc BitsM HuffM Go.Proofs

/-- What the reading of the tables comes to. -/
def TRes (w w' : World) (base b rb : Nat) (sl : Sl) (s : ByteArray) (off most : Nat) (out : List UInt8) (r : InfM.E (List Nat × List Nat)) (v : Value) : Prop :=
  Fr (· = rb) w w' ∧ match r with
  | .error er => v = .tuple #[.pointer none, .pointer none, .int .i64 (er : Int)] ∧ er ≠ 0
  | .ok ((lit, dist), p') => ∃ lb db, v = .tuple #[.pointer (some ⟨lb, 0, none⟩), .pointer (some ⟨db, 0, none⟩), .int .i64 0] ∧ Tab w' w.heap.size w'.heap.size lb lit ∧ Tab w' w.heap.size w'.heap.size db dist ∧ St w' base b rb sl s off p' out most
theorem nv_snoc (l : List Nat) (x : Nat) : nv l ++ [.int .i64 (x : Int)] = nv (l ++ [x]) := by simp [nv]
theorem toNat_ofNat (l : List Nat) : (l.map Int.ofNat).map Int.toNat = l := by simp [List.map_map, Function.comp_def]

theorem hnew_any {a : Option Addr} {zs : List Int} {n c : Nat} {w : World} (hr : Reads w a (iv zs)) (hn : zs.length = n) (ha : ∀ x, a = some x → x.block < w.heap.size) :
    Calls Tryz.prog F_huff_New #[.slice a n c] w fun e w' => Fr (fun _ => False) w w' ∧ ∃ pt, e = .returned (.tuple #[.pointer pt, .int .i64 ((chk zs : Nat) : Int)]) ∧ (chk zs = 0 → ∃ b, pt = some ⟨b, 0, none⟩ ∧ Tab w' w.heap.size w'.heap.size b (zs.map Int.toNat)) := by
  refine (hnew_spec hr hn ha).mono ?_
  rintro e w' ⟨⟨hc, rfl⟩ | ⟨hc, b, rfl, ht⟩, hf⟩
  · exact ⟨hf, none, rfl, fun h => absurd h hc⟩
  · exact ⟨hf, _, by rw [hc]; rfl, fun _ => ⟨b, rfl, ht⟩⟩

theorem tables_spec {w : World} {base b rb off p most : Nat} {sl : Sl} {s : ByteArray} {out : List UInt8} (h : St w base b rb sl s off p out most) :
    Calls Tryz.prog F_inflate_state_tables #[.pointer (some ⟨b, 0, none⟩)] w fun e w' => ∃ v, e = .returned v ∧ TRes w w' base b rb sl s off most out (InfM.tables (bitsFrom s off) p) v := by
  refine vc_inflate_state_tables_ok (R := fun v w' => TRes w w' base b rb sl s off most out (InfM.tables (bitsFrom s off) p) v) ?_ (fun v w' h => ⟨v, rfl, h⟩)
  generalize hB : bitsFrom s off = B
  refine ⟨_, h.c0, ?_⟩
  refine (stbits_spec h (n := 14) (by omega)).mono ?_
  rw [hB]
  rintro e w3 ⟨hf3, ⟨hd, p3, htk, hhd, hp3, rfl, h3⟩ | ⟨htk, rfl⟩⟩
  rotate_left
  · rw [InfM.tables_err htk]
    exact ⟨_, _, rfl, fun _ => ⟨hf3, rfl, by decide⟩, fun hh => by cases hh⟩
  rw [InfM.tables_ok htk]
  refine ⟨_, _, rfl, fun hh => (by cases hh), fun _ => ⟨by decide, by decide, ?_⟩⟩
  have enl : IntKind.i64.wrap (IntKind.i64.wrap (IntKind.u32.wrap (((BitVec.ofInt 32 (hd : Int) &&& BitVec.ofInt 32 31).toNat : Nat) : Int)) + 257) = ((hd % 32 + 257 : Nat) : Int) := by
    have := and_nat 32 hd 31 (by omega) (by decide)
    rw [show ((31 : Nat) : Int) = 31 from rfl, show hd &&& 31 = hd % 32 from and_mask hd 5] at this
    rw [this, wrap_u32 (by omega) (by omega), wrap_i64 (x := ((hd % 32 : Nat) : Int)) (by omega) (by omega), wrap_i64 (by omega) (by omega)]; omega
  have e5 : Int.fdiv (hd : Int) (2 ^ min (Int.toNat 5) 32) = ((hd / 32 : Nat) : Int) := by
    rw [show (2 : Int) ^ min (Int.toNat 5) 32 = ((32 : Nat) : Int) from rfl, Int.fdiv_eq_ediv_of_nonneg _ (Int.natCast_nonneg _), ← Int.natCast_ediv]
  have e10 : Int.fdiv (hd : Int) (2 ^ min (Int.toNat 10) 32) = ((hd / 1024 : Nat) : Int) := by
    rw [show (2 : Int) ^ min (Int.toNat 10) 32 = ((1024 : Nat) : Int) from rfl, Int.fdiv_eq_ediv_of_nonneg _ (Int.natCast_nonneg _), ← Int.natCast_ediv]
  have end_ : IntKind.i64.wrap (IntKind.i64.wrap (IntKind.u32.wrap (((BitVec.ofInt 32 ((hd / 32 : Nat) : Int) &&& BitVec.ofInt 32 31).toNat : Nat) : Int)) + 1) = ((hd / 32 % 32 + 1 : Nat) : Int) := by
    have := and_nat 32 (hd / 32) 31 (by omega) (by decide)
    rw [show ((31 : Nat) : Int) = 31 from rfl, show hd / 32 &&& 31 = hd / 32 % 32 from and_mask (hd / 32) 5] at this
    rw [this, wrap_u32 (by omega) (by omega), wrap_i64 (x := ((hd / 32 % 32 : Nat) : Int)) (by omega) (by omega), wrap_i64 (by omega) (by omega)]; omega
  have enc : IntKind.i64.wrap (IntKind.i64.wrap ((hd / 1024 : Nat) : Int) + 4) = ((hd / 1024 + 4 : Nat) : Int) := by
    rw [wrap_i64 (x := ((hd / 1024 : Nat) : Int)) (by omega) (by omega), wrap_i64 (by omega) (by omega)]; omega
  rw [enl, e5, end_, e10, enc]
  have hnl1 : 257 ≤ hd % 32 + 257 := by omega
  have hnl2 : hd % 32 + 257 ≤ 288 := by omega
  have hnd1 : 1 ≤ hd / 32 % 32 + 1 := by omega
  have hnd2 : hd / 32 % 32 + 1 ≤ 32 := by omega
  have hnc : hd / 1024 + 4 ≤ 19 := by omega
  clear enl e5 e10 end_ enc
  generalize hd % 32 + 257 = nl at *
  generalize hd / 32 % 32 + 1 = nd at *
  generalize hd / 1024 + 4 = nc at *
  rw [InfM.tabs1]
  refine ⟨fun hgt => ?_, fun hle => ⟨fun hgt => ?_, fun hle2 => ?_⟩⟩
  · have hgt := of_decide_eq_true hgt
    rw [if_pos (by omega)]
    exact ⟨hf3, rfl, by decide⟩
  · have hgt := of_decide_eq_true hgt
    rw [if_pos (by omega)]
    exact ⟨hf3, rfl, by decide⟩
  have hle := of_decide_eq_false hle
  have hle2 := of_decide_eq_false hle2
  rw [if_neg (by omega)]
  obtain ⟨w6, hr6, ho6, hf6⟩ := make_ints (w := w3) (n := 19) (by omega) (Nat.le_refl _)
  have h6 := h3.keep hf6 (by simp)
  refine ⟨w6, ⟨_, _, _⟩, hr6, ?_⟩
  obtain ⟨lb3, lrb3, lsl3⟩ := h3.lts
  have hpl : (InfM.places.take nc).length = nc := by rw [List.length_take]; have : InfM.places.length = 19 := rfl; omega
  refine ⟨fun i w11 => ∃ (k p' : Nat) (l' : List Nat), i = (k : Int) ∧ k ≤ nc ∧ InfM.firsts B (InfM.places.take nc) p3 (List.replicate 19 0) = InfM.firsts B ((InfM.places.take nc).drop k) p' l' ∧ l'.length = 19 ∧
      St w11 base b rb sl s off p' out most ∧ Vc.Own w11 w3.heap.size T_int ⟨some ⟨w3.heap.size, 0, none⟩, 19, 19⟩ (nv l') ∧ Fr (fun k => k = rb ∨ w3.heap.size ≤ k) w3 w11, fun i w11 => nc - i.toNat,
    ⟨0, p3, _, rfl, Nat.zero_le _, rfl, by simp, h6, ho6, hf6.mono fun k _ hk => hk.elim⟩, ?_⟩
  rintro i w11 ⟨k, p', l', rfl, hk, hinv, hl', h11, ho11, hf11⟩
  have e3 : IntKind.i64.wrap ((k : Int) + 1) = ((k + 1 : Nat) : Int) := by rw [wrap_i64 (by omega) (by omega)]; omega
  rw [e3]
  refine ⟨fun hlt => ?_, fun hge => ?_⟩
  · have hlt := of_decide_eq_true hlt
    have hkn : k < (InfM.places.take nc).length := by omega
    rw [List.drop_eq_getElem_cons hkn] at hinv
    have hpk : (InfM.places.take nc)[k] = InfM.places.getD k 0 := by
      rw [List.getElem_take, List.getD_eq_getElem?_getD, List.getElem?_eq_getElem (by have : InfM.places.length = 19 := rfl; omega)]; rfl
    have hp19 : InfM.places.getD k 0 < 19 := by
      have : ∀ k, k < 19 → InfM.places.getD k 0 < 19 := by decide
      exact this k (by omega)
    rw [hpk] at hinv
    refine ⟨_, h11.c0, ?_⟩
    refine (stbits_spec h11 (n := 3) (by omega)).mono ?_
    rw [hB]
    rintro e w14 ⟨hf14, ⟨x, p14, htk', hx, hp14, rfl, h14⟩ | ⟨htk', rfl⟩⟩
    rotate_left
    · have : InfM.firsts B (InfM.places.take nc) p3 (List.replicate 19 0) = .error 6 := by rw [hinv, InfM.firsts, htk']
      rw [this]
      refine ⟨_, _, rfl, fun _ => ⟨(hf3.trans hf11 fun k hk h => ?_).trans' hf14, rfl, by decide⟩, fun hh => by cases hh⟩
      rcases h with h | h
      · exact h
      · have := hf3.size; omega
    rw [InfM.firsts, htk'] at hinv
    simp only at hinv
    refine ⟨_, _, rfl, fun hh => (by cases hh), fun _ => ?_⟩
    refine (order_spec w14).mono ?_
    rintro e w18 ⟨rfl, hf18⟩
    have h18 := h14.keep hf18 (by simp)
    have l11 := h11.lts
    have ho14 := ho11.keep hf14 (fun y hy e => by cases hy; dsimp only at e; omega)
    have ho18 := ho14.keep hf18 (by simp)
    refine ⟨_, rfl, w18, ((InfM.places.getD k 0 : Nat) : Int), ?_, ?_⟩
    · have hidx := index_aggI (P := Tryz.prog) (w := w18) T_19_int T_int 19 (nv InfM.places) .i64 k (by kernel_rfl) (by kernel_rfl) (by rfl) (by omega) (by kernel_rfl)
      rw [show (nv InfM.places).getD k undef = .int .i64 ((InfM.places.getD k 0 : Nat) : Int) by
        have : ∀ k, k < 19 → (nv InfM.places).getD k undef = .int .i64 ((InfM.places.getD k 0 : Nat) : Int) := fun k hk => by
          have h19 : k < InfM.places.length := hk
          simp [nv, List.getD_eq_getElem?_getD, h19]
        exact this k (by omega)] at hidx
      exact hidx
    generalize InfM.places.getD k 0 = pk at hinv hp19 ⊢
    obtain ⟨a, ha, hc, hw, hset⟩ := ho18.set (i := pk) (by rw [List.length_map]; omega)
    have ew : IntKind.i64.wrap (x : Int) = (x : Int) := wrap_i64 (by omega) (by omega)
    refine ⟨⟨by omega, by dsimp only; omega⟩, a, ha, ?_⟩
    rw [Int.toNat_natCast, Nat.mul_one, ew]
    refine ⟨hw, ?_⟩
    rintro w23 rfl
    obtain ⟨ho23, hf23⟩ := hset (.int .i64 (x : Int))
    rw [show (nv l').set pk (.int .i64 (x : Int)) = nv (l'.set pk x) by simp [nv, List.map_set]] at ho23
    have h23 := h18.keep2 hf23 (fun ⟨y, hy, e⟩ => by cases hy; dsimp only at e; omega) (fun ⟨y, hy, e⟩ => by cases hy; dsimp only at e; omega) (fun z hz ⟨y, hy, e⟩ => by cases hy; have := lsl3 z hz; dsimp only at e; omega)
    refine ⟨⟨k + 1, p14, _, rfl, by omega, hinv, by rw [List.length_set]; exact hl', h23, ho23, ?_⟩, by dsimp only; omega⟩
    exact ((hf11.trans' (hf14.mono fun k _ hk => .inl hk)).trans' (hf18.mono fun k _ hk => hk.elim)).trans' (hf23.mono fun k _ ⟨y, hy, e⟩ => by cases hy; dsimp only at e; exact .inr (by omega))
  have hge := of_decide_eq_false hge
  have hkk : k = nc := by omega
  subst hkk
  rw [List.drop_of_length_le (by omega), InfM.firsts] at hinv
  rw [hinv]
  simp only
  rw [InfM.tabs2]
  have hfw11 : Fr (· = rb) w w11 := hf3.trans hf11 fun k hk h => by
    rcases h with h | h
    · exact h
    · have := hf3.size; omega
  rw [← iv_ofNat] at ho11
  refine (hnew_spec ho11.reads (n := 19) (by rw [List.length_map, hl']) (fun x hx => (ho11.blk hx).2)).mono ?_
  have hchk : InfM.chkN l' = chk (l'.map Int.ofNat) := rfl
  rintro e w25 ⟨⟨hc, rfl⟩ | ⟨hc, tb, rfl, ht⟩, hf25⟩
  · rw [hchk, if_pos hc]
    refine ⟨_, _, rfl, fun _ => ⟨hfw11.trans' (hf25.mono fun k _ hk => hk.elim), rfl, by decide⟩, fun hh => ?_⟩
    exact absurd hh (by simpa using hc)
  rw [hchk, if_neg (by omega)]
  rw [toNat_ofNat] at ht
  refine ⟨_, _, rfl, fun hh => (by simp at hh), fun _ => ?_⟩
  have h25 := h11.keep hf25 (by simp)
  have hfw25 : Fr (· = rb) w w25 := hfw11.trans' (hf25.mono fun k _ hk => hk.elim)
  obtain ⟨lb, lrb, lsl⟩ := h25.lts
  have hH11 : w.heap.size ≤ w11.heap.size := hfw11.size
  obtain ⟨lb11, lrb11, lsl11⟩ := h11.lts
  have etot : IntKind.i64.wrap ((nl : Int) + (nd : Int)) = ((nl + nd : Nat) : Int) := by rw [wrap_i64 (by omega) (by omega)]; omega
  rw [etot]
  obtain ⟨tot, htot⟩ : ∃ tot, nl + nd = tot := ⟨_, rfl⟩
  rw [htot]
  generalize hCL : InfM.clens l' tot B (tot + 1) p' [] = CL
  generalize hlo : w11.heap.size = lo at *
  generalize hhi : w25.heap.size = H at *
  have hloH : lo ≤ H := by rw [← hlo, ← hhi]; exact hf25.size
  have toW : ∀ {wx : World}, Fr (fun k => k = rb ∨ H ≤ k) w25 wx → Fr (· = rb) w wx := fun hf => hfw25.trans hf fun k hk h => by
    rcases h with h | h
    · exact h
    · omega
  refine ⟨fun l w31 => ∃ (q : Nat) (xs : List Nat) (f : Nat), CL = InfM.clens l' tot B f q xs ∧ tot + 1 ≤ f + xs.length ∧ xs.length ≤ tot ∧
      St w31 base b rb sl s off q out most ∧ Vc.Own w31 H T_int l (nv xs) ∧ Fr (fun k => k = rb ∨ H ≤ k) w25 w31, fun l w31 => tot - l.len,
    ⟨p', [], tot + 1, hCL.symm, by simp, Nat.zero_le _, h25, .nil _ _ _, .refl _ _⟩, ?_⟩
  rintro l30 w31 ⟨q, xs, f, hcl, hfx, hxl, h31, ho31, hf31⟩
  have hll : l30.len = xs.length := by rw [ho31.len, List.length_map]
  have hs31 := hf31.size
  have ht31 : Tab w31 lo H tb l' := ht.keep hf31 (fun k h1 h2 hk => by omega)
  refine ⟨fun hlt => ?_, fun hge => ?_⟩
  · have hlt := of_decide_eq_true hlt
    obtain ⟨f, rfl⟩ : ∃ g, f = g + 1 := ⟨f - 1, by omega⟩
    rw [InfM.clens, if_neg (by omega)] at hcl
    refine ⟨_, h31.c0, ?_⟩
    refine (stread_spec h31 ht31 (.inl lrb11)).mono ?_
    rw [hB]
    rintro e w34 ⟨hf34, ⟨x, q1, hsy, hq1, hx, rfl, h34⟩ | ⟨err, hsy, hne, rfl⟩⟩
    rotate_left
    · rw [hsy] at hcl
      rw [hcl]
      refine ⟨_, _, rfl, fun _ => ⟨(toW hf31).trans' hf34, rfl, hne⟩, fun hh => ?_⟩
      exact absurd hh (by simpa using hne)
    rw [hsy] at hcl
    simp only at hcl
    have ho34 := ho31.keep hf34 (fun y hy e => by have := (ho31.blk hy).1; omega)
    have hf34' : Fr (fun k => k = rb ∨ H ≤ k) w25 w34 := hf31.trans' (hf34.mono fun k _ hk => .inl hk)
    have hs34 := hf34'.size
    refine ⟨_, _, rfl, fun hh => (by simp at hh), fun _ => ⟨fun hlt16 => ?_, fun hge16 => ?_⟩⟩
    · have hlt16 := of_decide_eq_true hlt16
      rw [if_pos (by omega)] at hcl
      intro w37 h37
      have hnl' : (nv xs).length = xs.length := List.length_map _
      obtain ⟨w38, l39, hr, ho38, hf38, _⟩ := append_one' elInt ho34 (v := .int .i64 (x : Int)) rfl (by rw [hnl']; unfold maxLen; omega) (by rw [hnl']; omega) (by omega) h37
      rw [nv_snoc] at ho38
      have hl39 : l39.len = xs.length + 1 := by rw [ho38.len]; simp
      exact ⟨w38, l39, hr, ⟨q1, xs ++ [x], f, hcl, by simp; omega, by simp; omega, h34.keep2 hf38 (fun ⟨y, hy, e⟩ => by have := (ho34.blk hy).1; omega) (fun ⟨y, hy, e⟩ => by have := (ho34.blk hy).1; omega) (fun z hz ⟨y, hy, e⟩ => by have := (ho34.blk hy).1; have := lsl z hz; omega), ho38,
        hf34'.trans' (hf38.mono fun k _ ⟨y, hy, e⟩ => by have := (ho34.blk hy).1; exact .inr (by omega))⟩, by dsimp only; omega⟩
    have hge16 := of_decide_eq_false hge16
    rw [if_neg (by omega)] at hcl
    rw [hl'] at hx
    refine ⟨fun bits least what w46 => ¬ (x = 16 ∧ xs = []) ∧ bits = (((if x = 16 then 2 else if x = 17 then 3 else 7) : Nat) : Int) ∧ least = (((if x = 16 ∨ x = 17 then 3 else 11 : Nat)) : Int) ∧ what = (((if x = 16 then xs.getLastD 0 else 0) : Nat) : Int) ∧ w34 = w46, ⟨fun h16 => ?_, fun hn16 => ⟨fun h17 => ?_, fun hn17 => ?_⟩⟩, ?_⟩
    · have h16 : x = 16 := by have := eq_of_beq h16; omega
      subst h16
      refine ⟨fun h0 => ?_, fun hn0 => ?_⟩
      · have h0 : xs = [] := by
          have := eq_of_beq h0
          exact List.length_eq_zero_iff.1 (by omega)
        rw [if_pos ⟨rfl, h0⟩] at hcl
        rw [hcl]
        exact ⟨toW hf34', rfl, by decide⟩
      · have hne : xs ≠ [] := fun hh => by rw [hll, hh] at hn0; simp at hn0
        have hpos : 0 < xs.length := List.length_pos_iff.2 hne
        have e1 : IntKind.i64.wrap ((l30.len : Int) - 1) = ((xs.length - 1 : Nat) : Int) := by rw [hll, wrap_i64 (by omega) (by omega)]; omega
        rw [e1]
        obtain ⟨a, ha, hc⟩ := ho34.reads _ _ (show (nv xs)[xs.length - 1]? = some (.int .i64 ((xs.getLastD 0 : Nat) : Int)) by
          rw [nv, List.getElem?_map, List.getLastD_eq_getLast?, List.getLast?_eq_getElem?]
          rw [List.getElem?_eq_getElem (by omega)]; rfl)
        refine ⟨⟨by omega, by omega⟩, a, ha, _, by rw [Int.toNat_natCast, Nat.mul_one]; exact hc, fun hh => hne hh.2, rfl, rfl, rfl, rfl⟩
    · have h17 : x = 17 := by have := eq_of_beq h17; omega
      subst h17
      exact ⟨fun hh => by omega, rfl, rfl, rfl, rfl⟩
    · have h18 : x = 18 := by
        have h1 : x ≠ 16 := fun hh => by subst hh; simp at hn16
        have h2 : x ≠ 17 := fun hh => by subst hh; simp at hn17
        omega
      subst h18
      exact ⟨fun hh => by omega, rfl, rfl, rfl, rfl⟩
    rintro _ _ _ w46 ⟨hnn, rfl, rfl, rfl, rfl⟩
    rw [if_neg hnn] at hcl
    have hbits : (if x = 16 then 2 else if x = 17 then 3 else 7) ≤ 7 := by split <;> (try split) <;> omega
    have hleast : 3 ≤ (if x = 16 ∨ x = 17 then 3 else 11) ∧ (if x = 16 ∨ x = 17 then 3 else 11) ≤ 11 := by split <;> omega
    generalize (if x = 16 then 2 else if x = 17 then 3 else 7) = bits at hcl hbits ⊢
    generalize (if x = 16 ∨ x = 17 then 3 else 11) = least at hcl hleast ⊢
    generalize (if x = 16 then xs.getLastD 0 else 0) = what at hcl ⊢
    refine ⟨_, h34.c0, ?_⟩
    refine (stbits_spec h34 (n := bits) (by omega)).mono ?_
    rw [hB]
    rintro e w49 ⟨hf49, ⟨m, q2, htk2, hm, hq2, rfl, h49⟩ | ⟨htk2, rfl⟩⟩
    rotate_left
    · rw [htk2] at hcl
      rw [hcl]
      exact ⟨_, _, rfl, fun _ => ⟨(toW hf34').trans' hf49, rfl, by decide⟩, fun hh => by cases hh⟩
    rw [htk2] at hcl
    simp only at hcl
    have hm7 : m < 128 := Nat.lt_of_lt_of_le hm (Nat.pow_le_pow_right (n := 2) (by decide) hbits)
    refine ⟨_, _, rfl, fun hh => (by cases hh), fun _ => ?_⟩
    have ek1 : IntKind.i64.wrap (IntKind.i64.wrap ((l30.len : Int) + (least : Int)) + IntKind.i64.wrap (m : Int)) = ((xs.length + (least + m) : Nat) : Int) := by
      rw [hll, wrap_i64 (x := (m : Int)) (by omega) (by omega), wrap_i64 (x := ((xs.length : Nat) : Int) + _) (by omega) (by omega), wrap_i64 (by omega) (by omega)]; omega
    have ek2 : IntKind.i64.wrap ((least : Int) + IntKind.i64.wrap (m : Int)) = ((least + m : Nat) : Int) := by
      rw [wrap_i64 (x := (m : Int)) (by omega) (by omega), wrap_i64 (by omega) (by omega)]; omega
    rw [ek1, ek2]
    have hK1 : 3 ≤ least + m := by omega
    have hK2 : least + m ≤ 200 := by omega
    generalize least + m = K at hcl hK1 hK2 ⊢
    have ho49 := ho34.keep hf49 (fun y hy e => by have := (ho34.blk hy).1; omega)
    have hf49' : Fr (fun k => k = rb ∨ H ≤ k) w25 w49 := hf34'.trans' (hf49.mono fun k _ hk => .inl hk)
    have hs49 := hf49'.size
    refine ⟨fun hgt => ?_, fun hle => ?_⟩
    · have hgt := of_decide_eq_true hgt
      rw [if_pos (by omega)] at hcl
      rw [hcl]
      exact ⟨toW hf49', rfl, by decide⟩
    have hle := of_decide_eq_false hle
    rw [if_neg (by omega)] at hcl
    refine ⟨fun l i w56 => ∃ k : Nat, i = (k : Int) ∧ k ≤ K ∧ Vc.Own w56 H T_int l (nv (xs ++ List.replicate k what)) ∧ Fr (fun k => H ≤ k) w49 w56, fun l i w56 => K - i.toNat, ⟨0, rfl, Nat.zero_le _, by simpa using ho49, .refl _ _⟩, ?_⟩
    rintro l54 i w56 ⟨k, rfl, hk, ho56, hf56⟩
    have e3 : IntKind.i64.wrap ((k : Int) + 1) = ((k + 1 : Nat) : Int) := by rw [wrap_i64 (by omega) (by omega)]; omega
    rw [e3]
    have hs56 := hf56.size
    have hnl' : (nv (xs ++ List.replicate k what)).length = xs.length + k := by simp
    refine ⟨fun hlt w57 h57 => ?_, fun hge => ?_⟩
    · have hlt := of_decide_eq_true hlt
      obtain ⟨w58, l59, hr, ho58, hf58, _⟩ := append_one' elInt ho56 (v := .int .i64 (what : Int)) rfl (by rw [hnl']; unfold maxLen; omega) (by rw [hnl']; omega) (by omega) h57
      rw [nv_snoc, List.append_assoc, ← List.replicate_succ'] at ho58
      exact ⟨w58, l59, hr, ⟨k + 1, rfl, by omega, ho58, hf56.trans' (hf58.mono fun k _ ⟨y, hy, e⟩ => by have := (ho56.blk hy).1; omega)⟩, by dsimp only; omega⟩
    · have hge := of_decide_eq_false hge
      have hkK : k = K := by omega
      subst hkK
      have hl54 : l54.len = xs.length + k := by rw [ho56.len, hnl']
      exact ⟨⟨q2, _, f, hcl, by simp; omega, by simp; omega, h49.keep2 hf56 (by omega) (by omega) (fun z hz hh => by have := lsl z hz; omega), ho56, hf49'.trans' (hf56.mono fun k _ hk => .inr hk)⟩, by dsimp only; omega⟩
  have hge := of_decide_eq_false hge
  have hxt : xs.length = tot := by omega
  obtain ⟨f, rfl⟩ : ∃ g, f = g + 1 := ⟨f - 1, by omega⟩
  rw [InfM.clens, if_pos (by omega)] at hcl
  rw [hcl]
  simp only
  rw [Int.toNat_natCast]
  have hcap := ho31.cap
  have hr1 : Reads w31 (subA l30.a l30.cap 0 1) (iv ((xs.take nl).map Int.ofNat)) := by
    rw [iv_ofNat]
    have := ((ho31.reads).sub (cap := l30.cap) (by rw [List.length_map]; omega) 0).take nl
    simpa [nv, List.map_take] using this
  have hr2 : Reads w31 (subA l30.a l30.cap nl 1) (iv ((xs.drop nl).map Int.ofNat)) := by
    rw [iv_ofNat]
    have := (ho31.reads).sub (cap := l30.cap) (by rw [List.length_map]; omega) nl
    simpa [nv, List.map_drop] using this
  have hbl1 : ∀ {k : Nat} {x : Addr}, subA l30.a l30.cap k 1 = some x → x.block < w31.heap.size ∧ H ≤ x.block := fun hx => by
    obtain ⟨y, hy, e⟩ := subA_block hx
    have := ho31.blk hy; omega
  refine ⟨⟨by omega, by omega⟩, ?_⟩
  refine (hnew_any hr1 (n := nl) (by simp; omega) (fun x hx => (hbl1 hx).1)).mono ?_
  rintro e w61 ⟨hf61, p62, rfl, htab1⟩
  refine ⟨_, _, rfl, ⟨by omega, by omega⟩, ?_⟩
  refine (hnew_any (hr2.keep hf61 (by simp)) (n := l30.len - nl) (by simp; omega) (fun x hx => by have := (hbl1 hx).1; have := hf61.size; omega)).mono ?_
  rintro e w65 ⟨hf65, p66, rfl, htab2⟩
  have hf65' : Fr (fun _ => False) w31 w65 := hf61.trans' hf65
  have hfin : Fr (· = rb) w w65 := (toW hf31).trans' (hf65'.mono fun k _ hk => hk.elim)
  have hc1 : InfM.chkN (xs.take nl) = chk ((xs.take nl).map Int.ofNat) := rfl
  have hc2 : InfM.chkN (xs.drop nl) = chk ((xs.drop nl).map Int.ofNat) := rfl
  rw [hc1, hc2]
  obtain ⟨a, ha, hc⟩ := (ho31.keep hf65' (by simp)).reads 256 (.int .i64 ((xs.getD 256 0 : Nat) : Int)) (by
    rw [nv, List.getElem?_map, List.getD_eq_getElem?_getD, List.getElem?_eq_getElem (by omega)]; rfl)
  refine ⟨_, _, rfl, ⟨by decide, by omega⟩, a, ha, _, hc, fun h0 => ?_, fun hn0 => ⟨fun h1 => ?_, fun hn1 => ⟨fun h2 => ?_, fun hn2 => ?_⟩⟩⟩
  · have h0 := eq_of_beq h0
    rw [if_pos (.inl (by omega))]
    exact ⟨hfin, rfl, by decide⟩
  · rw [if_pos (.inr (.inl (by simpa using h1)))]
    exact ⟨hfin, rfl, by decide⟩
  · rw [if_pos (.inr (.inr (by simpa using h2)))]
    exact ⟨hfin, rfl, by decide⟩
  · have hn0 : xs.getD 256 0 ≠ 0 := fun hh => by rw [hh] at hn0; simp at hn0
    have hn1 : chk ((xs.take nl).map Int.ofNat) = 0 := by simpa using hn1
    have hn2 : chk ((xs.drop nl).map Int.ofNat) = 0 := by simpa using hn2
    rw [if_neg (fun hh => by rcases hh with hh | hh | hh <;> omega)]
    obtain ⟨lb1, rfl, ht1⟩ := htab1 hn1
    obtain ⟨db1, rfl, ht2⟩ := htab2 hn2
    rw [toNat_ofNat] at ht1 ht2
    have z1 := hf61.size
    have z2 := hf65.size
    have z3 := hfw25.size
    exact ⟨hfin, lb1, db1, rfl, (ht1.keep hf65 (by simp)).wide (by omega) (by omega), ht2.wide (by omega) (Nat.le_refl _), h31.keep hf65' (by simp)⟩
end Go.Proofs.YtllegkmadljmaaaGreatDoor
namespace InfM
open HuffM
theorem take_le {B : List Bool} {n p v p' : Nat} (h : take B n p = .ok (v, p')) : p' = p + n := by
  unfold take at h
  split at h
  · cases h; rfl
  · cases h
theorem sym_le {ls : List Nat} {B : List Bool} {p x p' : Nat} (h : sym ls B p = .ok (x, p')) : p ≤ p' := by
  unfold sym at h
  split at h
  · cases h; omega
  · split at h <;> cases h
theorem firsts_le {B : List Bool} : ∀ (r : List Nat) (p : Nat) (l l' : List Nat) (p' : Nat), firsts B r p l = .ok (l', p') → p ≤ p'
  | [], p, l, l', p', h => by simp only [firsts, Except.ok.injEq, Prod.mk.injEq] at h; omega
  | i :: r, p, l, l', p', h => by
    rw [firsts] at h
    split at h
    · cases h
    · rename_i ht
      have := take_le ht
      have := firsts_le r _ _ _ _ h
      omega
theorem clens_le {cl : List Nat} {tot : Nat} {B : List Bool} : ∀ (f p : Nat) (l l' : List Nat) (p' : Nat), clens cl tot B f p l = .ok (l', p') → p ≤ p'
  | 0, p, l, l', p', h => by cases h
  | f + 1, p, l, l', p', h => by
    rw [clens] at h
    split at h
    · cases h; omega
    split at h
    · cases h
    rename_i s p1 hs
    have h1 := sym_le hs
    split at h
    · have := clens_le f _ _ _ _ h; omega
    split at h
    · cases h
    split at h
    · cases h
    rename_i n p2 ht
    have h2 := take_le ht
    have key : ∀ k what, (if tot < l.length + k then (Except.error 3 : E (List Nat)) else clens cl tot B f p2 (l ++ List.replicate k what)) = .ok (l', p') → p ≤ p' := fun k what h => by
      split at h
      · cases h
      · have := clens_le f _ _ _ _ h; omega
    exact key _ _ h
theorem tables_le {B : List Bool} {p p' : Nat} {x : List Nat × List Nat} (h : tables B p = .ok (x, p')) : p ≤ p' := by
  unfold tables at h
  split at h
  · cases h
  rename_i h1
  have h1 := take_le h1
  simp only at h
  split at h
  · cases h
  split at h
  · cases h
  rename_i h2
  have h2 := firsts_le _ _ _ _ _ h2
  split at h
  · cases h
  split at h
  · cases h
  rename_i h3
  have h3 := clens_le _ _ _ _ _ h3
  split at h
  · cases h
  · cases h; omega
theorem rep_le {dist : List Nat} {most s p p' : Nat} {B : List Bool} {out out' : List UInt8} (h : rep dist most B s p out = .ok (out', p')) : p ≤ p' := by
  unfold rep at h
  split at h
  · cases h
  split at h
  · cases h
  rename_i h1
  have h1 := take_le h1
  split at h
  · cases h
  rename_i h2
  have h2 := sym_le h2
  split at h
  · cases h
  split at h
  · cases h
  rename_i h3
  have h3 := take_le h3
  simp only at h
  split at h
  · cases h
  split at h
  · cases h
  · cases h; omega
theorem stored_le {most p p' : Nat} {B : List Bool} {out out' : List UInt8} (h : stored most B p out = .ok (out', p')) : p ≤ p' := by
  unfold stored at h
  simp only at h
  split at h
  · split at h
    · cases h
    · split at h
      · split at h
        · cases h
        · cases h; omega
      · split at h <;> cases h
  · cases h
end InfM
namespace Go.Proofs.YtllegkmadljmaaaGreatDoor
open Go Vc BitsM HuffM Go.Proofs

/-- The reader's place, out of its cells. -/
def posOf (w : World) (rb : Nat) : Nat := 8 * cellNat w ⟨rb, 1, none⟩ - cellNat w ⟨rb, 3, none⟩
theorem Rd.posOf {w : World} {rb : Nat} {s : ByteArray} {pos : Nat} {from_ : Int} (h : Rd w rb s pos from_) : posOf w rb = pos := by
  obtain ⟨a, h⟩ := h
  have := h.lo
  unfold Go.Proofs.YtllegkmadljmaaaGreatDoor.posOf cellNat
  rw [h.c1, h.c3]
  simp; omega
/-- What the run comes to. -/
def RunR (w w' : World) (base0 base b rb : Nat) (s : ByteArray) (off most : Nat) (r : InfM.E (List UInt8)) (err : Int) : Prop :=
  Fr (fun k => base0 ≤ k) w w' ∧ match r with
  | .error e => err = (e : Int) ∧ e ≠ 0
  | .ok (out, p) => err = 0 ∧ ∃ sl', St w' base b rb sl' s off p out most
/-- Behind a block's text. -/
noncomputable def after (most : Nat) (B : List Bool) (f h : Nat) (r : InfM.E (List UInt8)) : InfM.E (List UInt8) := match r with
  | .error e => .error e
  | .ok (out, p) => if h % 2 = 1 then .ok (out, p) else InfM.blocks most B f p out

theorem run_spec {w : World} {base0 base b rb off most : Nat} {sl : Sl} {s : ByteArray} (h : St w base b rb sl s off 0 [] most) (h0b : base0 ≤ b) (h0r : base0 ≤ rb) :
    Calls Tryz.prog F_inflate_state_run #[.pointer (some ⟨b, 0, none⟩)] w fun e w' =>
      ∃ err : Int, e = .returned (.int .i64 err) ∧ RunR w w' base0 base b rb s off most (InfM.inf most (bitsFrom s off)) err := by
  refine vc_inflate_state_run_ok (R := fun v w' => ∃ err : Int, v = .int .i64 err ∧ RunR w w' base0 base b rb s off most (InfM.inf most (bitsFrom s off)) err) ?_ (fun v w' ⟨e, h⟩ => ⟨e, by rw [h.1], h.2⟩)
  have hBl := bitsFrom_length s off
  generalize hB : bitsFrom s off = B at hBl
  have hN : ∀ {wx : World} {slx : Sl} {p : Nat} {out : List UInt8}, St wx base b rb slx s off p out most → p ≤ B.length ∧ posOf wx rb = 8 * off + p := fun hx => by
    have := hx.le; rw [hx.rd.posOf]; exact ⟨by omega, rfl⟩
  have coarse : ∀ {w1 w2 : World} {slx : Sl} {p : Nat} {out : List UInt8}, St w1 base b rb slx s off p out most → Fr (SX b rb slx) w1 w2 → Fr (fun k => base0 ≤ k) w1 w2 := fun hx hf => hf.mono fun k _ hk => by
    rcases hk with hk | hk | ⟨y, hy, e⟩
    · omega
    · omega
    · have := (hx.own.blk hy).1; have := hx.hb; omega
  have coarseR : ∀ {w1 w2 : World}, Fr (· = rb) w1 w2 → Fr (fun k => base0 ≤ k) w1 w2 := fun hf => hf.mono fun k _ hk => by omega
  obtain ⟨N, hNN⟩ : ∃ N, 8 * off + B.length = N := ⟨_, rfl⟩
  -- what is said at the labels
  let Ib : World → Prop := fun w1 => ∃ f p out sl1, InfM.inf most B = InfM.blocks most B f p out ∧ B.length + 1 ≤ f + p ∧ St w1 base b rb sl1 s off p out most ∧ Fr (fun k => base0 ≤ k) w w1
  let Id : Int → World → Prop := fun hh w1 => ∃ (hd : Nat) (f p : Nat) (out : List UInt8) (sl1 : Sl), hh = (hd : Int) ∧ hd < 8 ∧ InfM.inf most B = after most B f hd (.ok (out, p)) ∧ B.length + 1 ≤ f + p ∧ St w1 base b rb sl1 s off p out most ∧ Fr (fun k => base0 ≤ k) w w1
  let Is : Int → Option Addr → Option Addr → World → Prop := fun hh pl pd w1 => ∃ (hd : Nat) (f g p : Nat) (out : List UInt8) (sl1 : Sl) (ls ds : List Nat) (lb db lo hi : Nat), hh = (hd : Int) ∧ hd < 8 ∧ pl = some ⟨lb, 0, none⟩ ∧ pd = some ⟨db, 0, none⟩ ∧
    InfM.inf most B = after most B f hd (InfM.packed ls ds most B g p out) ∧ B.length + 1 ≤ f + p ∧ B.length + 1 ≤ g + p ∧ Tab w1 lo hi lb ls ∧ Tab w1 lo hi db ds ∧ rb < lo ∧ b < lo ∧ (∀ y, sl1.a = some y → y.block < lo ∨ hi ≤ y.block) ∧ hi ≤ w1.heap.size ∧
    St w1 base b rb sl1 s off p out most ∧ Fr (fun k => base0 ≤ k) w w1
  let Mb : World → Nat := fun w1 => 3 * (N - posOf w1 rb) + 1
  let Md : Int → World → Nat := fun _ w1 => 3 * (N - posOf w1 rb) + 2
  let Ms : Int → Option Addr → Option Addr → World → Nat := fun _ _ _ w1 => 3 * (N - posOf w1 rb)
  refine ⟨Ib, Mb, Id, Md, Is, Ms, ?_, fun w1 hI => ?_, ?_, ?_, trivial⟩
  · have hI : Ib w := ⟨B.length + 1, 0, [], sl, rfl, by omega, h, .refl _ _⟩
    obtain ⟨f, p, out, sl1, hres, hfp, h1, hf1⟩ := hI
    obtain ⟨f, rfl⟩ : ∃ g, f = g + 1 := ⟨f - 1, by have := (hN h1).1; omega⟩
    rw [InfM.blocks] at hres
    refine ⟨_, h1.c0, ?_⟩
    refine (stbits_spec h1 (n := 3) (by omega)).mono ?_
    rw [hB]
    rintro e w2 ⟨hf2, ⟨hd, p2, htk, hhd, hp2, rfl, h2⟩ | ⟨htk, rfl⟩⟩
    rotate_left
    · rw [htk] at hres
      rw [hres]
      exact ⟨_, _, rfl, fun _ => ⟨6, rfl, hf1.trans' (coarseR hf2), rfl, by decide⟩, fun hh => by cases hh⟩
    rw [htk] at hres
    replace hres : InfM.inf most B = after most B f hd (InfM.block most B (hd / 2) p2 out) := hres
    have hf2' := hf1.trans' (coarseR hf2)
    have e1 : Int.fdiv (hd : Int) (2 ^ min (Int.toNat 1) 32) = ((hd / 2 : Nat) : Int) := by
      rw [show (2 : Int) ^ min (Int.toNat 1) 32 = ((2 : Nat) : Int) from rfl, Int.fdiv_eq_ediv_of_nonneg _ (Int.natCast_nonneg _), ← Int.natCast_ediv]
    refine ⟨_, _, rfl, fun hh => (by cases hh), fun _ => ⟨by decide, ?_⟩⟩
    rw [e1]
    have hpos1 := (hN h1).2
    have hpos2 := (hN h2).2
    have hle2 := (hN h2).1
    refine ⟨fun hk0 => ?_, fun hk0 => ⟨fun hk1 => ?_, fun hk1 => ⟨fun hk2 => ?_, fun hk2 => ?_⟩⟩⟩
    · have hk0 : hd / 2 = 0 := by have := eq_of_beq hk0; omega
      rw [InfM.block, if_pos hk0] at hres
      refine (stored_spec h2).mono ?_
      rw [hB]
      rintro e w3 ⟨err, rfl, hf3, hr3⟩
      have hf3' := hf2'.trans' (coarse h2 hf3)
      cases hst : InfM.stored most B p2 out with
      | error er =>
        rw [hst] at hr3 hres
        obtain ⟨rfl, hne⟩ := hr3
        replace hres : InfM.inf most B = .error er := hres
        rw [hres]
        refine ⟨_, rfl, fun _ => ⟨_, rfl, hf3', rfl, hne⟩, fun hh => ?_⟩
        exact absurd hh (by simpa using hne)
      | ok x =>
        obtain ⟨out3, p3⟩ := x
        rw [hst] at hr3 hres
        obtain ⟨rfl, sl3, h3, _⟩ := hr3
        have hle3 := InfM.stored_le hst
        obtain ⟨hpos3, hpos3'⟩ := hN h3
        refine ⟨_, rfl, fun hh => (by simp at hh), fun _ => ?_⟩
        have hId : Id (hd : Int) w3 := ⟨hd, f, p3, out3, sl3, rfl, by omega, hres, by omega, h3, hf3'⟩
        exact hId
    · have hk0 : hd / 2 ≠ 0 := fun hh => by rw [hh] at hk0; simp at hk0
      have hk1 : hd / 2 = 1 := by have := eq_of_beq hk1; omega
      rw [InfM.block, if_neg hk0, if_pos hk1] at hres
      refine (fixed_spec w2).mono ?_
      rintro e w3 ⟨lb, db, rfl, ht1, ht2, hf3⟩
      have h3 := h2.keep hf3 (by simp)
      have hpos3' := (hN h3).2
      refine ⟨_, _, rfl, ?_⟩
      have hIs : Is (hd : Int) (some ⟨lb, 0, none⟩) (some ⟨db, 0, none⟩) w3 := ⟨hd, f, B.length + 1, p2, out, sl1, _, _, lb, db, w2.heap.size, w3.heap.size, rfl, by omega, rfl, rfl, hres, by omega, by omega, ht1, ht2, h2.lts.2.1, h2.lts.1, fun y hy => .inl (h2.lts.2.2 y hy), Nat.le_refl _, h3, hf2'.trans' (hf3.mono fun k _ hk => hk.elim)⟩
      exact hIs
    · have hk0 : hd / 2 ≠ 0 := fun hh => by rw [hh] at hk0; simp at hk0
      have hk1 : hd / 2 ≠ 1 := fun hh => by rw [hh] at hk1; simp at hk1
      have hk2 : hd / 2 = 2 := by have := eq_of_beq hk2; omega
      rw [InfM.block, if_neg hk0, if_neg hk1, if_pos hk2] at hres
      refine (tables_spec h2).mono ?_
      rw [hB]
      rintro e w3 ⟨v, rfl, hf3, hr3⟩
      cases htb : InfM.tables B p2 with
      | error er =>
        rw [htb] at hr3 hres
        obtain ⟨rfl, hne⟩ := hr3
        replace hres : InfM.inf most B = .error er := hres
        rw [hres]
        refine ⟨_, _, _, rfl, fun _ => ⟨_, rfl, hf2'.trans' (coarseR hf3), rfl, hne⟩, fun hh => ?_⟩
        exact absurd hh (by simpa using hne)
      | ok x =>
        obtain ⟨⟨lit, dist⟩, p3⟩ := x
        rw [htb] at hr3 hres
        obtain ⟨lb, db, rfl, ht1, ht2, h3⟩ := hr3
        have hle3 := InfM.tables_le htb
        obtain ⟨hpos3, hpos3'⟩ := hN h3
        refine ⟨_, _, _, rfl, fun hh => (by simp at hh), fun _ => ?_⟩
        have hIs : Is (hd : Int) (some ⟨lb, 0, none⟩) (some ⟨db, 0, none⟩) w3 := ⟨hd, f, B.length + 1, p3, out, sl1, _, _, lb, db, w2.heap.size, w3.heap.size, rfl, by omega, rfl, rfl, hres, by omega, by omega, ht1, ht2, h2.lts.2.1, h2.lts.1, fun y hy => .inl (h2.lts.2.2 y hy), Nat.le_refl _, h3, hf2'.trans' (coarseR hf3)⟩
        exact hIs
    · have hk0 : hd / 2 ≠ 0 := fun hh => by rw [hh] at hk0; simp at hk0
      have hk1 : hd / 2 ≠ 1 := fun hh => by rw [hh] at hk1; simp at hk1
      have hk2 : hd / 2 ≠ 2 := fun hh => by rw [hh] at hk2; simp at hk2
      rw [InfM.block, if_neg hk0, if_neg hk1, if_neg hk2] at hres
      replace hres : InfM.inf most B = .error 3 := hres
      rw [hres]
      exact ⟨3, rfl, hf2', rfl, by decide⟩
  · obtain ⟨f, p, out, sl1, hres, hfp, h1, hf1⟩ := hI
    obtain ⟨f, rfl⟩ : ∃ g, f = g + 1 := ⟨f - 1, by have := (hN h1).1; omega⟩
    rw [InfM.blocks] at hres
    refine ⟨_, h1.c0, ?_⟩
    refine (stbits_spec h1 (n := 3) (by omega)).mono ?_
    rw [hB]
    rintro e w2 ⟨hf2, ⟨hd, p2, htk, hhd, hp2, rfl, h2⟩ | ⟨htk, rfl⟩⟩
    rotate_left
    · rw [htk] at hres
      rw [hres]
      exact ⟨_, _, rfl, fun _ => ⟨6, rfl, hf1.trans' (coarseR hf2), rfl, by decide⟩, fun hh => by cases hh⟩
    rw [htk] at hres
    replace hres : InfM.inf most B = after most B f hd (InfM.block most B (hd / 2) p2 out) := hres
    have hf2' := hf1.trans' (coarseR hf2)
    have e1 : Int.fdiv (hd : Int) (2 ^ min (Int.toNat 1) 32) = ((hd / 2 : Nat) : Int) := by
      rw [show (2 : Int) ^ min (Int.toNat 1) 32 = ((2 : Nat) : Int) from rfl, Int.fdiv_eq_ediv_of_nonneg _ (Int.natCast_nonneg _), ← Int.natCast_ediv]
    refine ⟨_, _, rfl, fun hh => (by cases hh), fun _ => ⟨by decide, ?_⟩⟩
    rw [e1]
    have hpos1 := (hN h1).2
    have hpos2 := (hN h2).2
    have hle2 := (hN h2).1
    refine ⟨fun hk0 => ?_, fun hk0 => ⟨fun hk1 => ?_, fun hk1 => ⟨fun hk2 => ?_, fun hk2 => ?_⟩⟩⟩
    · have hk0 : hd / 2 = 0 := by have := eq_of_beq hk0; omega
      rw [InfM.block, if_pos hk0] at hres
      refine (stored_spec h2).mono ?_
      rw [hB]
      rintro e w3 ⟨err, rfl, hf3, hr3⟩
      have hf3' := hf2'.trans' (coarse h2 hf3)
      cases hst : InfM.stored most B p2 out with
      | error er =>
        rw [hst] at hr3 hres
        obtain ⟨rfl, hne⟩ := hr3
        replace hres : InfM.inf most B = .error er := hres
        rw [hres]
        refine ⟨_, rfl, fun _ => ⟨_, rfl, hf3', rfl, hne⟩, fun hh => ?_⟩
        exact absurd hh (by simpa using hne)
      | ok x =>
        obtain ⟨out3, p3⟩ := x
        rw [hst] at hr3 hres
        obtain ⟨rfl, sl3, h3, _⟩ := hr3
        have hle3 := InfM.stored_le hst
        obtain ⟨hpos3, hpos3'⟩ := hN h3
        refine ⟨_, rfl, fun hh => (by simp at hh), fun _ => ?_⟩
        have hId : Id (hd : Int) w3 := ⟨hd, f, p3, out3, sl3, rfl, by omega, hres, by omega, h3, hf3'⟩
        exact ⟨hId, by dsimp only [Md, Mb]; omega⟩
    · have hk0 : hd / 2 ≠ 0 := fun hh => by rw [hh] at hk0; simp at hk0
      have hk1 : hd / 2 = 1 := by have := eq_of_beq hk1; omega
      rw [InfM.block, if_neg hk0, if_pos hk1] at hres
      refine (fixed_spec w2).mono ?_
      rintro e w3 ⟨lb, db, rfl, ht1, ht2, hf3⟩
      have h3 := h2.keep hf3 (by simp)
      have hpos3' := (hN h3).2
      refine ⟨_, _, rfl, ?_⟩
      have hIs : Is (hd : Int) (some ⟨lb, 0, none⟩) (some ⟨db, 0, none⟩) w3 := ⟨hd, f, B.length + 1, p2, out, sl1, _, _, lb, db, w2.heap.size, w3.heap.size, rfl, by omega, rfl, rfl, hres, by omega, by omega, ht1, ht2, h2.lts.2.1, h2.lts.1, fun y hy => .inl (h2.lts.2.2 y hy), Nat.le_refl _, h3, hf2'.trans' (hf3.mono fun k _ hk => hk.elim)⟩
      exact ⟨hIs, by dsimp only [Ms, Mb]; omega⟩
    · have hk0 : hd / 2 ≠ 0 := fun hh => by rw [hh] at hk0; simp at hk0
      have hk1 : hd / 2 ≠ 1 := fun hh => by rw [hh] at hk1; simp at hk1
      have hk2 : hd / 2 = 2 := by have := eq_of_beq hk2; omega
      rw [InfM.block, if_neg hk0, if_neg hk1, if_pos hk2] at hres
      refine (tables_spec h2).mono ?_
      rw [hB]
      rintro e w3 ⟨v, rfl, hf3, hr3⟩
      cases htb : InfM.tables B p2 with
      | error er =>
        rw [htb] at hr3 hres
        obtain ⟨rfl, hne⟩ := hr3
        replace hres : InfM.inf most B = .error er := hres
        rw [hres]
        refine ⟨_, _, _, rfl, fun _ => ⟨_, rfl, hf2'.trans' (coarseR hf3), rfl, hne⟩, fun hh => ?_⟩
        exact absurd hh (by simpa using hne)
      | ok x =>
        obtain ⟨⟨lit, dist⟩, p3⟩ := x
        rw [htb] at hr3 hres
        obtain ⟨lb, db, rfl, ht1, ht2, h3⟩ := hr3
        have hle3 := InfM.tables_le htb
        obtain ⟨hpos3, hpos3'⟩ := hN h3
        refine ⟨_, _, _, rfl, fun hh => (by simp at hh), fun _ => ?_⟩
        have hIs : Is (hd : Int) (some ⟨lb, 0, none⟩) (some ⟨db, 0, none⟩) w3 := ⟨hd, f, B.length + 1, p3, out, sl1, _, _, lb, db, w2.heap.size, w3.heap.size, rfl, by omega, rfl, rfl, hres, by omega, by omega, ht1, ht2, h2.lts.2.1, h2.lts.1, fun y hy => .inl (h2.lts.2.2 y hy), Nat.le_refl _, h3, hf2'.trans' (coarseR hf3)⟩
        exact ⟨hIs, by dsimp only [Ms, Mb]; omega⟩
    · have hk0 : hd / 2 ≠ 0 := fun hh => by rw [hh] at hk0; simp at hk0
      have hk1 : hd / 2 ≠ 1 := fun hh => by rw [hh] at hk1; simp at hk1
      have hk2 : hd / 2 ≠ 2 := fun hh => by rw [hh] at hk2; simp at hk2
      rw [InfM.block, if_neg hk0, if_neg hk1, if_neg hk2] at hres
      replace hres : InfM.inf most B = .error 3 := hres
      rw [hres]
      exact ⟨3, rfl, hf2', rfl, by decide⟩
  · rintro hh w1 ⟨hd, f, p, out, sl1, rfl, hd8, hres, hfp, h1, hf1⟩
    have e1 : IntKind.u32.wrap (((BitVec.ofInt 32 (hd : Int) &&& BitVec.ofInt 32 1).toNat : Nat) : Int) = ((hd % 2 : Nat) : Int) := by
      have := and_nat 32 hd 1 (by omega) (by decide)
      rw [show ((1 : Nat) : Int) = 1 from rfl, show hd &&& 1 = hd % 2 from and_mask hd 1] at this
      rw [this, wrap_u32 (by omega) (by omega)]
    rw [e1]
    simp only [after] at hres
    refine ⟨fun h0 => ?_, fun h0 => ?_⟩
    · have h0 : hd % 2 = 0 := by have := eq_of_beq h0; omega
      rw [if_neg (by omega)] at hres
      exact ⟨⟨f, p, out, sl1, hres, hfp, h1, hf1⟩, by dsimp only [Md, Mb]; omega⟩
    · have h0 : hd % 2 ≠ 0 := fun hh => by rw [hh] at h0; simp at h0
      rw [if_pos (by omega)] at hres
      rw [hres]
      exact ⟨0, rfl, hf1, rfl, sl1, h1⟩
  · rintro hh pl pd w1 ⟨hd, f, g, p, out, sl1, ls, ds, lb, db, lo, hi, rfl, hd8, rfl, rfl, hres, hfp, hgp, ht1, ht2, hrlo, hblo, hslo, hhi, h1, hf1⟩
    obtain ⟨g, rfl⟩ : ∃ g', g = g' + 1 := ⟨g - 1, by have := (hN h1).1; omega⟩
    rw [InfM.packed] at hres
    refine ⟨_, h1.c0, ?_⟩
    refine (stread_spec h1 ht1 (.inl hrlo)).mono ?_
    rw [hB]
    have hpos1 := (hN h1).2
    rintro e w2 ⟨hf2, ⟨x, p2, hsy, hp2, hx, rfl, h2⟩ | ⟨err, hsy, hne, rfl⟩⟩
    rotate_left
    · rw [hsy] at hres
      replace hres : InfM.inf most B = .error err := hres
      rw [hres]
      refine ⟨_, _, rfl, fun _ => ⟨err, rfl, hf1.trans' (coarseR hf2), rfl, hne⟩, fun hh => ?_⟩
      exact absurd hh (by simpa using hne)
    rw [hsy] at hres
    simp only at hres
    have hf2' := hf1.trans' (coarseR hf2)
    obtain ⟨hle2, hpos2⟩ := hN h2
    have hsm := ht1.small
    have ht1' := ht1.keep hf2 (fun k a b hk => by omega)
    have ht2' := ht2.keep hf2 (fun k a b hk => by omega)
    have hs2 := hf2.size
    have nsx : ∀ k, lo ≤ k → k < hi → ¬ SX b rb sl1 k := fun k a c hk => by
      rcases hk with hk | hk | ⟨y, hy, e⟩
      · omega
      · omega
      · have := hslo y hy; omega
    have more : ∀ {w3 : World} {sl3 : Sl} {p3 : Nat} {out3 : List UInt8}, p2 ≤ p3 → Fr (SX b rb sl1) w2 w3 → St w3 base b rb sl3 s off p3 out3 most → Since w2 sl1 sl3 → InfM.inf most B = after most B f hd (InfM.packed ls ds most B g p3 out3) →
        Is (hd : Int) (some ⟨lb, 0, none⟩) (some ⟨db, 0, none⟩) w3 ∧ Ms (hd : Int) (some ⟨lb, 0, none⟩) (some ⟨db, 0, none⟩) w3 < Ms (hd : Int) (some ⟨lb, 0, none⟩) (some ⟨db, 0, none⟩) w1 := by
      intro w3 sl3 p3 out3 hp3 hf3 h3 hs3 hres3
      obtain ⟨hle3, hpos3⟩ := hN h3
      have := hf3.size
      refine ⟨⟨hd, f, g, p3, out3, sl3, ls, ds, lb, db, lo, hi, rfl, hd8, rfl, rfl, hres3, by omega, by omega, ht1'.keep hf3 nsx, ht2'.keep hf3 nsx, hrlo, hblo, fun y hy => ?_, by omega, h3, hf2'.trans' (coarse h2 hf3)⟩, by dsimp only [Ms]; omega⟩
      rcases hs3 y hy with ⟨z, hz, e⟩ | hn
      · have := hslo z hz; omega
      · exact .inr (by omega)
    refine ⟨_, _, rfl, fun hh => (by simp at hh), fun _ => ⟨fun h256 => ?_, fun hn256 => ⟨fun hlt => ?_, fun hge => ?_⟩⟩⟩
    · have h256 : x = 256 := by have := eq_of_beq h256; omega
      rw [if_pos h256] at hres
      exact ⟨⟨hd, f, p2, out, sl1, rfl, hd8, hres, by omega, h2, hf2'⟩, by dsimp only [Md, Ms]; omega⟩
    · have hlt := of_decide_eq_true hlt
      have hlt : x < 256 := by omega
      rw [if_neg (by omega), if_pos hlt] at hres
      rw [wrap_u8 (by omega) (by omega)]
      refine (put_spec h2 hlt).mono ?_
      rintro e w3 ⟨err, rfl, hf3, hr3⟩
      by_cases hfull : out.length = most
      · rw [if_pos hfull] at hr3 hres
        obtain ⟨rfl, _⟩ := hr3
        replace hres : InfM.inf most B = .error 2 := hres
        rw [hres]
        exact ⟨_, rfl, fun hz => (by simp at hz), fun _ => ⟨2, rfl, hf2'.trans' (coarse h2 hf3), rfl, by decide⟩⟩
      · rw [if_neg hfull] at hr3 hres
        obtain ⟨rfl, sl3, h3, hs3⟩ := hr3
        exact ⟨_, rfl, fun _ => more (Nat.le_refl _) hf3 h3 hs3 hres, fun hz => (by simp at hz)⟩
    · have hge := of_decide_eq_false hge
      have hn256 : x ≠ 256 := fun hh => by subst hh; simp at hn256
      rw [if_neg hn256, if_neg (by omega)] at hres
      refine (repeat_spec h2 ht2' (.inl hrlo) (by omega) (by omega)).mono ?_
      rw [hB]
      rintro e w3 ⟨err, rfl, hf3, hr3⟩
      cases hrp : InfM.rep ds most B x p2 out with
      | error er =>
        rw [hrp] at hr3 hres
        obtain ⟨rfl, hne⟩ := hr3
        replace hres : InfM.inf most B = .error er := hres
        rw [hres]
        refine ⟨_, rfl, fun hz => ?_, fun _ => ⟨_, rfl, hf2'.trans' (coarse h2 hf3), rfl, hne⟩⟩
        exact absurd hz (by simpa using hne)
      | ok y =>
        obtain ⟨out3, p3⟩ := y
        rw [hrp] at hr3 hres
        obtain ⟨rfl, sl3, h3, hs3⟩ := hr3
        exact ⟨_, rfl, fun _ => more (InfM.rep_le hrp) hf3 h3 hs3 hres, fun hz => (by simp at hz)⟩
end Go.Proofs.YtllegkmadljmaaaGreatDoor
namespace Go.Proofs.YtllegkmadljmaaaGreatDoor
open Go Vc BitsM HuffM Go.Proofs

/-- The three answers. -/
def ans3 (r : List UInt8 × Nat × Nat) : Value := .tuple #[.string ⟨r.1.toArray⟩, .int .i64 (r.2.1 : Int), .int .i64 (r.2.2 : Int)]
theorem infl_spec' (s : ByteArray) (hs : s.size ≤ 140737488351232) (at_ most : Int) (w : World) :
    Calls Tryz.prog F_inflate_Inflate #[.string s, .int .i64 at_, .int .i64 most] w fun e w' => e = .returned (ans3 (InfM.inflate s.data.toList at_ most)) ∧ ((InfM.inflate s.data.toList at_ most).2.2 = 0 → ((InfM.inflate s.data.toList at_ most).1.length : Int) ≤ most ∧ ∃ x, InfM.inf most.toNat (sbits (s.data.toList.drop at_.toNat)) = .ok x) ∧ Fr (fun _ => False) w w' := by
  refine vc_inflate_Inflate_ok (R := fun v w' => v = ans3 (InfM.inflate s.data.toList at_ most) ∧ ((InfM.inflate s.data.toList at_ most).2.2 = 0 → ((InfM.inflate s.data.toList at_ most).1.length : Int) ≤ most ∧ ∃ x, InfM.inf most.toNat (sbits (s.data.toList.drop at_.toNat)) = .ok x) ∧ Fr (fun _ => False) w w') ?_ (fun v w' h => ⟨by rw [h.1], h.2⟩)
  have hsl : (s.data.toList.length : Int) = (s.size : Int) := by simp
  have bad : (at_ < 0 ∨ (s.size : Int) < at_ ∨ most < 0 ∨ 65536 < most) → InfM.inflate s.data.toList at_ most = ([], 0, 1) := fun h => by
    unfold InfM.inflate; rw [hsl, if_pos h]
  refine ⟨fun h1 => ?_, fun h1 => ⟨fun h2 => ?_, fun h2 => ⟨fun h3 => ?_, fun h3 => ⟨fun h4 => ?_, fun h4 => ?_⟩⟩⟩⟩
  · rw [bad (.inl (of_decide_eq_true h1))]; exact ⟨rfl, fun h => (by cases h), .refl _ _⟩
  · rw [bad (.inr (.inl (of_decide_eq_true h2)))]; exact ⟨rfl, fun h => (by cases h), .refl _ _⟩
  · rw [bad (.inr (.inr (.inl (of_decide_eq_true h3))))]; exact ⟨rfl, fun h => (by cases h), .refl _ _⟩
  · rw [bad (.inr (.inr (.inr (of_decide_eq_true h4))))]; exact ⟨rfl, fun h => (by cases h), .refl _ _⟩
  have h1 := of_decide_eq_false h1
  have h2 := of_decide_eq_false h2
  have h3 := of_decide_eq_false h3
  have h4 := of_decide_eq_false h4
  obtain ⟨off, rfl⟩ : ∃ off : Nat, at_ = (off : Int) := ⟨at_.toNat, by omega⟩
  obtain ⟨mo, rfl⟩ : ∃ mo : Nat, most = (mo : Int) := ⟨most.toNat, by omega⟩
  have good : InfM.inflate s.data.toList off mo = match InfM.inf mo (bitsFrom s off) with
      | .error e => ([], 0, e)
      | .ok (out, p) => (out, (p + 7) / 8, 0) := by
    unfold InfM.inflate
    rw [hsl, if_neg (by omega), Int.toNat_natCast, Int.toNat_natCast, sbits_drop] <;> rfl
  rw [good]
  refine (rnew_spec hs off w).mono ?_
  rw [Int.toNat_natCast, show min off s.size = off by omega]
  rintro e w2 ⟨rfl, hr, hf2⟩
  refine ⟨_, rfl, fun w4 h4' => ?_⟩
  have hlt := hr.lt
  have hf4 : Fr (fun _ => False) w2 w4 := h4' ▸ Fr.alloc _ _ _
  have hst : St w4 (w2.heap.size + 1) w2.heap.size w.heap.size ⟨none, 0, 0⟩ s off 0 [] mo :=
    ⟨by rw [h4']; exact alloc_new _ _, .nil _ _ _, hr.keep hf4 (by simp), by omega, by omega, by omega, by rw [h4']; simp, Nat.zero_le _, by omega⟩
  refine (run_spec hst (base0 := w.heap.size) (by omega) (Nat.le_refl _)).mono ?_
  rintro e w6 ⟨err, rfl, hf6, hres⟩
  have hfin : Fr (fun _ => False) w w6 := (hf2.trans' hf4).trans hf6 fun k hk h => by omega
  cases hi : InfM.inf mo (bitsFrom s off) with
  | error er =>
    rw [hi] at hres
    obtain ⟨rfl, hne⟩ := hres
    refine ⟨_, rfl, fun _ => ⟨rfl, fun h => absurd h hne, hfin⟩, fun hh => ?_⟩
    exact absurd hh (by simpa using hne)
  | ok x =>
    obtain ⟨out, p⟩ := x
    rw [hi] at hres
    obtain ⟨rfl, sl', h6⟩ := hres
    refine ⟨_, rfl, fun hh => (by simp at hh), fun _ w8 d8 => ?_⟩
    have h8 := h6.drew d8
    refine ⟨fun w' => Drew w8 w', .refl _, _, fun w' d => (h8.drew d).c1, _, fun w' d => (h8.drew d).c0, ⟨out.toArray⟩, fun w' d => ?_, ?_⟩
    · exact bytes_str (e := T_uint8) (by kernel_rfl) (by kernel_rfl) (by kernel_rfl) sl'.cap (h8.drew d).own.reads (h8.drew d).len.symm
    refine (used_spec h8.rd (by omega) (by omega)).mono ?_
    rintro e w17 ⟨rfl, d17⟩
    refine ⟨_, rfl, d17, ?_, fun _ => ⟨(by have := h8.fit; dsimp only; omega), (out, p), (by rw [Int.toNat_natCast, sbits_drop]; exact hi)⟩, (hfin.trans' (.drew _ d8)).trans' (.drew _ d17)⟩
    unfold ans3
    have : (((8 * off + p + 7) / 8 : Nat) : Int) - (off : Int) = (((p + 7) / 8 : Nat) : Int) := by omega
    rw [this]
    rfl

theorem infl_spec (s : ByteArray) (hs : s.size ≤ 140737488351232) (at_ most : Int) (w : World) :
    Calls Tryz.prog F_inflate_Inflate #[.string s, .int .i64 at_, .int .i64 most] w fun e w' => e = .returned (ans3 (InfM.inflate s.data.toList at_ most)) ∧ ((InfM.inflate s.data.toList at_ most).2.2 = 0 → ((InfM.inflate s.data.toList at_ most).1.length : Int) ≤ most) ∧ Fr (fun _ => False) w w' :=
  (infl_spec' s hs at_ most w).mono fun e w' h => ⟨h.1, fun h0 => (h.2.1 h0).1, h.2.2⟩

end Go.Proofs.YtllegkmadljmaaaGreatDoor

/- Plain laws on inflating: a stream that is cut short is told to be short. -/
set_option linter.unusedVariables false
namespace InfM
open BitsM HuffM Go.Proofs.YtllegkmadljmaaaGreatDoor
/-- What was read within the first L bits is read of these alone; what was read beyond them is told to be short. -/
def Cut {α : Type} (L : Nat) (r r' : E α) : Prop := ∀ v p', r = .ok (v, p') → r' = if p' ≤ L then .ok (v, p') else .error 6
theorem drop_cut (B : List Bool) (L p n : Nat) (h : p + n ≤ L) : ((B.take L).drop p).take n = (B.drop p).take n := by
  rw [List.drop_take, List.take_take, show min n (L - p) = n by omega]
theorem take_cut {B : List Bool} {L : Nat} (hL : L ≤ B.length) (n p : Nat) : Cut L (take B n p) (take (B.take L) n p) := fun v p' h => by
  have hl : (B.take L).length = L := by rw [List.length_take]; omega
  unfold take at h ⊢
  rw [hl]
  split at h
  · cases h
    split
    · rename_i h2; rw [drop_cut B L p n h2]
    · rfl
  · cases h
theorem At.cut {ls : List Nat} {b : List Bool} {s n k : Nat} (h : HuffM.At ls (b.take k) s n) : HuffM.At ls b s n := by
  obtain ⟨h1, h2, h3, h4⟩ := h
  rw [List.length_take] at h3
  rw [List.take_take, show min n k = n by omega] at h4
  exact ⟨h1, h2, by omega, h4⟩
theorem sym_cut {ls : List Nat} (hf : Fits ls) {B : List Bool} {L : Nat} (hL : L ≤ B.length) (p : Nat) (hp : p ≤ L) : Cut L (sym ls B p) (sym ls (B.take L) p) := fun v p' h => by
  unfold sym at h
  split at h
  · rename_i hx
    have ha := hx.choose_spec
    cases h
    generalize hx.choose = y at ha ⊢
    by_cases hle : p + y.2 ≤ L
    · rw [if_pos hle]
      refine sym_at ?_
      obtain ⟨h1, h2, h3, h4⟩ := ha
      exact ⟨h1, h2, by rw [List.length_drop, List.length_take]; omega, by rw [drop_cut B L p _ hle]; exact h4⟩
    · rw [if_neg hle]
      unfold sym
      have hno : ¬ ∃ x : Nat × Nat, HuffM.At ls ((B.take L).drop p) x.1 x.2 := fun ⟨x, hx'⟩ => by
        have h3 := hx'.2.2.1
        rw [List.length_drop, List.length_take] at h3
        rw [List.drop_take] at hx'
        have := ha.one (At.cut hx')
        omega
      rw [dif_neg hno, if_pos ?_]
      have hpre := (cbits_prefix hf ha.1 ha.2.1 (B.drop p)).2 ha
      have hcl : (cbits ls y.1).length = y.2 := by rw [cbits_length, List.getD_eq_getElem?_getD, ha.1]; rfl
      refine ⟨y.1, (List.getElem?_eq_some_iff.1 ha.1).1, by rw [hcl, List.length_drop, List.length_take]; omega, ?_⟩
      rw [List.drop_take]
      exact List.prefix_of_prefix_length_le (List.take_prefix _ _) hpre (by rw [hcl, List.length_take]; omega)
  · split at h <;> cases h
theorem firsts_cut {B : List Bool} {L : Nat} (hL : L ≤ B.length) : ∀ (r : List Nat) (p : Nat) (l : List Nat), p ≤ L → Cut L (firsts B r p l) (firsts (B.take L) r p l)
  | [], p, l, hp => fun v p' h => by
    rw [firsts] at h ⊢
    cases h
    rw [if_pos hp]
  | i :: r, p, l, hp => fun v p' h => by
    rw [firsts] at h ⊢
    split at h
    · cases h
    rename_i n p1 ht
    have h1 := take_cut hL 3 p _ _ ht
    have h2 := firsts_le _ _ _ _ _ h
    rw [h1]
    by_cases hle : p1 ≤ L
    · rw [if_pos hle]; exact firsts_cut hL r p1 _ hle _ _ h
    · rw [if_neg hle, if_neg (show ¬ p' ≤ L by omega)]
theorem clens_cut {cl : List Nat} (hf : Fits cl) {tot : Nat} {B : List Bool} {L : Nat} (hL : L ≤ B.length) : ∀ (f p : Nat) (l : List Nat), p ≤ L → Cut L (clens cl tot B f p l) (clens cl tot (B.take L) f p l)
  | 0, p, l, hp => fun v p' h => by cases h
  | f + 1, p, l, hp => fun v p' h => by
    rw [clens] at h ⊢
    split at h
    · rename_i h0
      cases h
      rw [if_pos h0, if_pos hp]
    rename_i h0
    rw [if_neg h0]
    split at h
    · cases h
    rename_i s p1 hs
    have h1 := sym_cut hf hL p hp _ _ hs
    rw [h1]
    by_cases hle : p1 ≤ L
    · rw [if_pos hle]
      simp only
      split at h
      · rename_i h16
        rw [if_pos h16]
        exact clens_cut hf hL f p1 _ hle _ _ h
      rename_i h16
      rw [if_neg h16]
      split at h
      · cases h
      rename_i h17
      rw [if_neg h17]
      split at h
      · cases h
      rename_i n p2 ht
      have h2 := take_cut hL _ p1 _ _ ht
      rw [h2]
      have key : ∀ k what, (if tot < l.length + k then (Except.error 3 : E (List Nat)) else clens cl tot B f p2 (l ++ List.replicate k what)) = .ok (v, p') →
          p2 ≤ p' ∧ (p2 ≤ L → (if tot < l.length + k then (Except.error 3 : E (List Nat)) else clens cl tot (B.take L) f p2 (l ++ List.replicate k what)) = if p' ≤ L then .ok (v, p') else .error 6) := fun k what h => by
        split at h
        · cases h
        · rename_i hk
          rw [if_neg hk]
          exact ⟨clens_le _ _ _ _ _ h, fun h2 => clens_cut hf hL f p2 _ h2 _ _ h⟩
      obtain ⟨k1, k2⟩ := key _ _ h
      by_cases hle2 : p2 ≤ L
      · rw [if_pos hle2]; exact k2 hle2
      · rw [if_neg hle2, if_neg (show ¬ p' ≤ L by omega)]
    · rw [if_neg hle, if_neg (c := p' ≤ L) ?_]
      have := clens_le (cl := cl) (tot := tot) (B := B) (f + 1) p l v p' (by rw [clens, if_neg h0, hs]; exact h)
      have hge : p1 ≤ p' := by
        simp only at h
        split at h
        · exact clens_le _ _ _ _ _ h
        split at h
        · cases h
        split at h
        · cases h
        rename_i n p2 ht
        have h2 := take_le ht
        have key : ∀ k what, (if tot < l.length + k then (Except.error 3 : E (List Nat)) else clens cl tot B f p2 (l ++ List.replicate k what)) = .ok (v, p') → p1 ≤ p' := fun k what h => by
          split at h
          · cases h
          · have := clens_le f _ _ _ _ h; omega
        exact key _ _ h
      omega
theorem chk_fits {ls : List Nat} (h : chkN ls = 0) : Fits ls := by
  unfold chkN chk at h
  rw [List.map_map, show (Int.toNat ∘ Int.ofNat) = id from rfl, List.map_id] at h
  split at h
  · cases h
  rename_i h1
  split at h
  · cases h
  rename_i h2
  split at h
  · cases h
  rename_i h3
  refine ⟨by omega, fun z hz => ?_⟩
  exact Nat.le_of_not_lt fun hl => h2 ⟨(z : Int), List.mem_map.2 ⟨z, hz, rfl⟩, .inr (by omega)⟩
theorem tables_cut {B : List Bool} {L : Nat} (hL : L ≤ B.length) (p : Nat) (hp : p ≤ L) : Cut L (tables B p) (tables (B.take L) p) := fun v p' h => by
  have hle := tables_le h
  obtain ⟨hd, p1, ht⟩ : ∃ hd p1, take B 14 p = .ok (hd, p1) := by
    cases ht : take B 14 p with
    | error e => rw [tables_err ht] at h; cases h
    | ok x => exact ⟨_, _, rfl⟩
  have c1 := take_cut hL 14 p _ _ ht
  rw [tables_ok ht] at h
  by_cases h1 : p1 ≤ L
  · rw [if_pos h1] at c1
    rw [tables_ok c1]
    rw [tabs1] at h ⊢
    split at h
    · cases h
    rename_i g1
    rw [if_neg g1]
    split at h
    · cases h
    rename_i first p2 hfi
    have c2 := firsts_cut hL _ p1 _ h1 _ _ hfi
    rw [c2]
    by_cases h2 : p2 ≤ L
    · rw [if_pos h2]
      simp only
      rw [tabs2] at h ⊢
      split at h
      · cases h
      rename_i g2
      rw [if_neg g2]
      split at h
      · cases h
      rename_i l p3 hcl
      have c3 := clens_cut (chk_fits (Classical.not_not.1 g2)) hL _ p2 _ h2 _ _ hcl
      rw [c3]
      split at h
      · cases h
      rename_i g3
      cases h
      by_cases h3 : p' ≤ L
      · rw [if_pos h3, if_pos h3]
        simp only
        rw [if_neg g3]
      · rw [if_neg h3, if_neg h3]
    · rw [if_neg h2, if_neg (show ¬ p' ≤ L from ?_)]
      rw [tabs2] at h
      split at h
      · cases h
      split at h
      · cases h
      rename_i hcl
      have := clens_le _ _ _ _ _ hcl
      split at h
      · cases h
      · cases h; omega
  · rw [if_neg h1] at c1
    rw [tables_err c1, if_neg (show ¬ p' ≤ L from ?_)]
    rw [tabs1] at h
    split at h
    · cases h
    split at h
    · cases h
    rename_i hfi
    have := firsts_le _ _ _ _ _ hfi
    rw [tabs2] at h
    split at h
    · cases h
    split at h
    · cases h
    rename_i hcl
    have := clens_le _ _ _ _ _ hcl
    split at h
    · cases h
    · cases h; omega
theorem rep_cut {dist : List Nat} (hf : Fits dist) {most : Nat} {B : List Bool} {L : Nat} (hL : L ≤ B.length) (s p : Nat) (out : List UInt8) (hp : p ≤ L) : Cut L (rep dist most B s p out) (rep dist most (B.take L) s p out) := fun v p' h => by
  unfold rep at h ⊢
  split at h
  · cases h
  rename_i g1
  rw [if_neg g1]
  split at h
  · cases h
  rename_i more p1 h1
  have c1 := take_cut hL _ p _ _ h1
  rw [c1]
  split at h
  · cases h
  rename_i d p2 h2
  have l2 := sym_le h2
  split at h
  · cases h
  rename_i g2
  split at h
  · cases h
  rename_i far p3 h3
  have l3 := take_le h3
  simp only at h
  split at h
  · cases h
  rename_i g3
  split at h
  · cases h
  rename_i g4
  cases h
  by_cases e1 : p1 ≤ L
  · rw [if_pos e1]
    simp only
    rw [sym_cut hf hL p1 e1 _ _ h2]
    by_cases e2 : p2 ≤ L
    · rw [if_pos e2]
      simp only
      rw [if_neg g2, take_cut hL _ p2 _ _ h3]
      by_cases e3 : p' ≤ L
      · rw [if_pos e3, if_pos e3]
        simp only
        rw [if_neg g3, if_neg g4]
      · rw [if_neg e3, if_neg e3]
    · rw [if_neg e2, if_neg (show ¬ p' ≤ L by omega)]
  · rw [if_neg e1, if_neg (show ¬ p' ≤ L by omega)]
theorem packed_le {lit dist : List Nat} {most : Nat} {B : List Bool} : ∀ (f p : Nat) (out out' : List UInt8) (p' : Nat), packed lit dist most B f p out = .ok (out', p') → p ≤ p'
  | 0, p, out, out', p', h => by cases h
  | f + 1, p, out, out', p', h => by
    rw [packed] at h
    split at h
    · cases h
    rename_i s p1 h1
    have l1 := sym_le h1
    split at h
    · cases h; exact l1
    split at h
    · split at h
      · cases h
      · have := packed_le f _ _ _ _ h; omega
    split at h
    · cases h
    rename_i o p2 h2
    have l2 := rep_le h2
    have := packed_le f _ _ _ _ h
    omega
theorem sym_lt {ls : List Nat} {B : List Bool} {p x p' : Nat} (h : sym ls B p = .ok (x, p')) : p < p' := by
  unfold sym at h
  split at h
  · rename_i hx
    have := hx.choose_spec.2.1
    cases h; omega
  · split at h <;> cases h
theorem packed_cut {lit dist : List Nat} (hl : Fits lit) (hd : Fits dist) {most : Nat} {B : List Bool} {L : Nat} (hL : L ≤ B.length) : ∀ (f f' p : Nat) (out : List UInt8), p ≤ L → L + 1 ≤ f' + p → Cut L (packed lit dist most B f p out) (packed lit dist most (B.take L) f' p out)
  | 0, f', p, out, hp, hf => fun v p' h => by cases h
  | f + 1, f', p, out, hp, hf => fun v p' h => by
    obtain ⟨f', rfl⟩ : ∃ g, f' = g + 1 := ⟨f' - 1, by omega⟩
    rw [packed] at h ⊢
    split at h
    · cases h
    rename_i s p1 h1
    have l1 := sym_lt h1
    rw [sym_cut hl hL p hp _ _ h1]
    by_cases e1 : p1 ≤ L
    · rw [if_pos e1]
      simp only
      split at h
      · rename_i g1
        cases h
        rw [if_pos g1, if_pos e1]
      rename_i g1
      rw [if_neg g1]
      split at h
      · rename_i g2
        rw [if_pos g2]
        split at h
        · cases h
        rename_i g3
        rw [if_neg g3]
        exact packed_cut hl hd hL f f' p1 _ e1 (by omega) _ _ h
      rename_i g2
      rw [if_neg g2]
      split at h
      · cases h
      rename_i o p2 h2
      have l2 := rep_le h2
      rw [rep_cut hd hL s p1 out e1 _ _ h2]
      by_cases e2 : p2 ≤ L
      · rw [if_pos e2]
        exact packed_cut hl hd hL f f' p2 _ e2 (by omega) _ _ h
      · have := packed_le f _ _ _ _ h
        rw [if_neg e2, if_neg (show ¬ p' ≤ L by omega)]
    · rw [if_neg e1, if_neg (show ¬ p' ≤ L from ?_)]
      split at h
      · cases h; omega
      split at h
      · split at h
        · cases h
        · have := packed_le f _ _ _ _ h; omega
      split at h
      · cases h
      rename_i o p2 h2
      have l2 := rep_le h2
      have := packed_le f _ _ _ _ h
      omega
theorem stored_cut {most : Nat} {B : List Bool} {L : Nat} (hL : L ≤ B.length) (p : Nat) (out : List UInt8) (hp : p ≤ L) : Cut L (stored most B p out) (stored most (B.take L) p out) := fun v p' h => by
  have hl : (B.take L).length = L := by rw [List.length_take]; omega
  unfold stored at h ⊢
  simp only at h ⊢
  rw [hl]
  generalize (p + 7) / 8 * 8 = q at h ⊢
  split at h
  · split at h
    · cases h
    rename_i g1
    split at h
    · split at h
      · cases h
      rename_i g2 g3
      cases h
      by_cases e1 : q + 32 ≤ L
      · rw [if_pos e1, drop_cut B L q 16 (by omega), drop_cut B L (q + 16) 16 (by omega), if_neg g1]
        generalize num ((B.drop q).take 16) = n at g1 g2 g3 ⊢
        by_cases e2 : q + 32 + 8 * n ≤ L
        · rw [if_pos e2, if_neg g3, if_pos e2]
          have : bytesAt (B.take L) n (q + 32) = bytesAt B n (q + 32) := by
            unfold bytesAt
            refine List.map_congr_left fun i hi => ?_
            have := List.mem_range.1 hi
            rw [drop_cut B L _ 8 (by omega)]
          rw [this]
        · rw [if_neg e2, if_neg (by omega), if_neg e2]
      · rw [if_neg e1, if_neg (by omega)]
    · split at h <;> cases h
  · cases h
theorem tables_chk {B : List Bool} {p p' : Nat} {lit dist : List Nat} (h : tables B p = .ok ((lit, dist), p')) : Fits lit ∧ Fits dist := by
  unfold tables at h
  split at h
  · cases h
  simp only at h
  split at h
  · cases h
  split at h
  · cases h
  split at h
  · cases h
  split at h
  · cases h
  split at h
  · cases h
  rename_i g
  cases h
  exact ⟨chk_fits (Classical.not_not.1 fun hh => g (.inr (.inl hh))), chk_fits (Classical.not_not.1 fun hh => g (.inr (.inr hh)))⟩
theorem block_le {most : Nat} {B : List Bool} {kind p p' : Nat} {out out' : List UInt8} (h : block most B kind p out = .ok (out', p')) : p ≤ p' := by
  unfold block at h
  split at h
  · exact stored_le h
  split at h
  · exact packed_le _ _ _ _ _ h
  split at h
  · split at h
    · cases h
    rename_i h1
    have := tables_le h1
    have := packed_le _ _ _ _ _ h
    omega
  · cases h
theorem block_cut {most : Nat} {B : List Bool} {L : Nat} (hL : L ≤ B.length) (kind p : Nat) (out : List UInt8) (hp : p ≤ L) : Cut L (block most B kind p out) (block most (B.take L) kind p out) := fun v p' h => by
  have hl : (B.take L).length = L := by rw [List.length_take]; omega
  unfold block at h ⊢
  rw [hl]
  split at h
  · rename_i g; rw [if_pos g]; exact stored_cut hL p out hp _ _ h
  rename_i g; rw [if_neg g]
  split at h
  · rename_i g; rw [if_pos g]; exact packed_cut (chk_fits fixedLit_chk) (chk_fits fixedDist_chk) hL _ _ p out hp (by omega) _ _ h
  rename_i g; rw [if_neg g]
  split at h
  · rename_i g
    rw [if_pos g]
    split at h
    · cases h
    rename_i lit dist p1 h1
    have hc := tables_chk h1
    rw [tables_cut hL p hp _ _ h1]
    by_cases e1 : p1 ≤ L
    · rw [if_pos e1]
      exact packed_cut hc.1 hc.2 hL _ _ p1 out e1 (by omega) _ _ h
    · have := packed_le _ _ _ _ _ h
      rw [if_neg e1, if_neg (show ¬ p' ≤ L by omega)]
  · cases h
theorem blocks_le {most : Nat} {B : List Bool} : ∀ (f p : Nat) (out out' : List UInt8) (p' : Nat), blocks most B f p out = .ok (out', p') → p ≤ p'
  | 0, p, out, out', p', h => by cases h
  | f + 1, p, out, out', p', h => by
    rw [blocks] at h
    split at h
    · cases h
    rename_i h1
    have := take_le h1
    split at h
    · cases h
    rename_i h2
    have := block_le h2
    split at h
    · cases h; omega
    · have := blocks_le f _ _ _ _ h; omega
theorem blocks_cut {most : Nat} {B : List Bool} {L : Nat} (hL : L ≤ B.length) : ∀ (f f' p : Nat) (out : List UInt8), p ≤ L → L + 1 ≤ f' + p → Cut L (blocks most B f p out) (blocks most (B.take L) f' p out)
  | 0, f', p, out, hp, hf => fun v p' h => by cases h
  | f + 1, f', p, out, hp, hf => fun v p' h => by
    obtain ⟨f', rfl⟩ : ∃ g, f' = g + 1 := ⟨f' - 1, by omega⟩
    have hle := blocks_le _ _ _ _ _ h
    rw [blocks] at h ⊢
    split at h
    · cases h
    rename_i hd p1 h1
    have l1 := take_le h1
    split at h
    · cases h
    rename_i o p2 h2
    have l2 := block_le h2
    have l3 : p2 ≤ p' := by
      split at h
      · cases h; omega
      · exact blocks_le f _ _ _ _ h
    rw [take_cut hL 3 p _ _ h1]
    by_cases e1 : p1 ≤ L
    · rw [if_pos e1]
      simp only
      rw [block_cut hL _ p1 out e1 _ _ h2]
      by_cases e2 : p2 ≤ L
      · rw [if_pos e2]
        simp only
        split at h
        · rename_i g
          cases h
          rw [if_pos g, if_pos e2]
        · rename_i g
          rw [if_neg g]
          exact blocks_cut hL f f' p2 _ e2 (by omega) _ _ h
      · rw [if_neg e2, if_neg (show ¬ p' ≤ L by omega)]
    · rw [if_neg e1, if_neg (show ¬ p' ≤ L by omega)]
end InfM

/- Plain laws on inflating: a greater limit changes nothing of what was read within a smaller one. -/
set_option linter.unusedVariables false
namespace InfM
open BitsM HuffM Go.Proofs.YtllegkmadljmaaaGreatDoor
/-- Too much comes out; or a greater limit changes nothing. -/
def Good (most : Nat) (r r' : E (List UInt8)) : Prop := r = .error 2 ∨ (r' = r ∧ ∀ out p, r = .ok (out, p) → out.length ≤ most)
theorem Good.err {most e : Nat} : Good most (.error e) (.error e) := .inr ⟨rfl, fun _ _ h => by cases h⟩
end InfM

/- Numbers as bytes, Adler's sum: in plain. No condition. -/
set_option linter.unusedVariables false
namespace SumM
/-- One byte more. -/
def adl1 (x : Nat × Nat) (c : UInt8) : Nat × Nat := ((x.1 + c.toNat) % 65521, (x.2 + (x.1 + c.toNat) % 65521) % 65521)
def adl (l : List UInt8) : Nat × Nat := l.foldl adl1 (1, 0)
/-- Adler's sum. -/
def adler (l : List UInt8) : Nat := 65536 * (adl l).2 + (adl l).1
theorem adl_snoc (l : List UInt8) (c : UInt8) : adl (l ++ [c]) = adl1 (adl l) c := by
  unfold adl; rw [List.foldl_append]; rfl
theorem adl_lt (l : List UInt8) : (adl l).1 < 65521 ∧ (adl l).2 < 65521 := by
  rcases List.eq_nil_or_concat l with rfl | ⟨r, c, rfl⟩
  · decide
  · rw [List.concat_eq_append, adl_snoc]
    exact ⟨Nat.mod_lt _ (by decide), Nat.mod_lt _ (by decide)⟩
theorem adler_lt (l : List UInt8) : adler l < 4294967296 := by
  have := adl_lt l
  unfold adler; omega
/-- The highest first, of n bytes. -/
def bigB (n x : Nat) : List UInt8 := (List.range n).map fun i => UInt8.ofNat (x / 256 ^ (n - 1 - i))
/-- The lowest first. -/
def littleB (n x : Nat) : List UInt8 := (List.range n).map fun i => UInt8.ofNat (x / 256 ^ i)
theorem bigB_length (n x : Nat) : (bigB n x).length = n := by simp [bigB]
theorem littleB_length (n x : Nat) : (littleB n x).length = n := by simp [littleB]
/-- The number of bytes, the highest first. -/
def num8 (l : List UInt8) : Nat := l.foldl (fun x c => 256 * x + c.toNat) 0
theorem num8_snoc (l : List UInt8) (c : UInt8) : num8 (l ++ [c]) = 256 * num8 l + c.toNat := by
  unfold num8; rw [List.foldl_append]; rfl
theorem num8_lt : ∀ (n : Nat) (l : List UInt8), l.length = n → num8 l < 256 ^ n
  | 0, l, h => by
    have : l = [] := List.length_eq_zero_iff.1 h
    subst this; decide
  | n + 1, l, h => by
    rcases List.eq_nil_or_concat l with rfl | ⟨r, c, rfl⟩
    · cases h
    · rw [List.concat_eq_append] at h ⊢
      rw [List.length_append, List.length_singleton] at h
      have h1 := num8_lt n r (by omega)
      have h2 := c.toNat_lt
      rw [num8_snoc, Nat.pow_succ]
      omega
theorem ofNat_eq {x y : Nat} (h : x % 256 = y % 256) : UInt8.ofNat x = UInt8.ofNat y := by
  rw [← UInt8.toNat_inj]; simpa using h
theorem bigB_succ (n x : Nat) : bigB (n + 1) x = bigB n (x / 256) ++ [UInt8.ofNat x] := by
  unfold bigB
  rw [List.range_succ, List.map_append]
  congr 1
  · refine List.map_congr_left fun i hi => ?_
    have hi := List.mem_range.1 hi
    rw [Nat.div_div_eq_div_mul, show n + 1 - 1 - i = (n - 1 - i) + 1 by omega, Nat.pow_succ, Nat.mul_comm]
  · simp
/-- A number of so many bytes says these bytes. -/
theorem bigB_num8 : ∀ (n : Nat) (l : List UInt8), l.length = n → bigB n (num8 l) = l
  | 0, l, h => by
    have : l = [] := List.length_eq_zero_iff.1 h
    subst this; rfl
  | n + 1, l, h => by
    rcases List.eq_nil_or_concat l with rfl | ⟨r, c, rfl⟩
    · cases h
    · rw [List.concat_eq_append] at h ⊢
      rw [List.length_append, List.length_singleton] at h
      have h2 := c.toNat_lt
      rw [num8_snoc, bigB_succ, show (256 * num8 r + c.toNat) / 256 = num8 r by omega, bigB_num8 n r (by omega)]
      congr 2
      rw [← UInt8.toNat_inj]
      simp
theorem num8_bigB : ∀ (n x : Nat), x < 256 ^ n → num8 (bigB n x) = x
  | 0, x, h => by have : x = 0 := by simpa using h
                  subst this; rfl
  | n + 1, x, h => by
    rw [Nat.pow_succ] at h
    rw [bigB_succ, num8_snoc, num8_bigB n (x / 256) (by omega)]
    simp; omega
end SumM
namespace Go.Proofs.YtllegkmadljmaaaGreatDoor
open Go Vc SumM Go.Proofs

theorem take_byt (s : ByteArray) {n : Nat} (h : n < s.size) : s.data.toList.take (n + 1) = s.data.toList.take n ++ [UInt8.ofNat (byt s n)] := by
  have hlt : n < s.data.toList.length := by simp only [Array.length_toList]; exact h
  have hb : byt s n = (s.data.toList[n]).toNat := by unfold byt; rw [List.getElem?_eq_getElem hlt]; rfl
  rw [List.take_succ_eq_append_getElem hlt, hb, UInt8.ofNat_toNat]
theorem take_size (s : ByteArray) : s.data.toList.take s.size = s.data.toList := List.take_of_length_le (by simp)
theorem toNat_byt (s : ByteArray) (n : Nat) : (UInt8.ofNat (byt s n)).toNat = byt s n := by
  have := byt_lt s n
  simp; omega
theorem byteV_wrap (l : List UInt8) (z : Int) (hz : 0 ≤ z) : byteV l ++ [.int .u8 (IntKind.u8.wrap z)] = byteV (l ++ [UInt8.ofNat z.toNat]) := by
  obtain ⟨x, rfl⟩ := Int.eq_ofNat_of_zero_le hz
  rw [wrap_u8_mod, show ((x : Int) % 256) = ((x % 256 : Nat) : Int) by omega, byteV_snoc l (x % 256) (Nat.mod_lt _ (by decide)), Int.toNat_natCast, ofNat_eq (Nat.mod_mod _ _)]
theorem shift_byte (x k : Nat) : Int.fdiv (x : Int) (2 ^ min (((8 * k : Nat) : Int)).toNat 64) = (if k ≤ 8 then ((x / 256 ^ k : Nat) : Int) else ((x / 2 ^ 64 : Nat) : Int)) := by
  have hc : ∀ j : Nat, (2 : Int) ^ j = ((2 ^ j : Nat) : Int) := fun j => by push_cast; rfl
  split
  · rw [show min (((8 * k : Nat) : Int)).toNat 64 = 8 * k by omega, hc, Int.fdiv_eq_ediv_of_nonneg _ (Int.natCast_nonneg _), ← Int.natCast_ediv, Nat.pow_mul]
  · rw [show min (((8 * k : Nat) : Int)).toNat 64 = 64 by omega, hc, Int.fdiv_eq_ediv_of_nonneg _ (Int.natCast_nonneg _), ← Int.natCast_ediv]
theorem bigB_get {n x i : Nat} (h : i < n) : (bigB n x).take (i + 1) = (bigB n x).take i ++ [UInt8.ofNat (x / 256 ^ (n - 1 - i))] := by
  rw [List.take_succ_eq_append_getElem (by rw [bigB_length]; exact h)]
  simp [bigB]
theorem pow_big {x k : Nat} (hx : x < 18446744073709551616) (h : 8 ≤ k) : x / 256 ^ k = 0 := by
  refine Nat.div_eq_of_lt ?_
  have : 256 ^ 8 ≤ 256 ^ k := Nat.pow_le_pow_right (by decide) h
  omega
theorem littleB_get {n x i : Nat} (h : i < n) : (littleB n x).take (i + 1) = (littleB n x).take i ++ [UInt8.ofNat (x / 256 ^ i)] := by
  rw [List.take_succ_eq_append_getElem (by rw [littleB_length]; exact h)]
  simp [littleB]
end Go.Proofs.YtllegkmadljmaaaGreatDoor

/- Formulas of 2 Go functions of this seat (written by a program of the author's, vcgen.py), and that each is enough for the call. No condition. -/
set_option linter.unusedVariables false
namespace Go.Proofs.YtllegkmadljmaaaGreatDoor
open Go Vc Go.Proofs
set_option maxRecDepth 100000
def vc_sums_FromBig (x0 : ByteArray) (w : World) (R : Value → World → Prop) : Prop :=
 ∃ I1 : Int → Int → World → Prop, ∃ I2 : Int → Int → World → Nat, (I1 0 0 w ∧
 ∀ n3 : Int,
 ∀ n4 : Int,
 ∀ w5 : World,
 (I1 n3 n4 w5 →
 (((decide (n4 < (↑(ByteArray.size x0) : Int)) = true →
 ((0 : Int) ≤ (8 : Int) ∧
 ((0 ≤ n4 ∧
 n4 < (↑(ByteArray.size x0) : Int)) ∧
 (I1 (IntKind.wrap .u64 (↑(BitVec.toNat (BitVec.ofInt 64 (IntKind.wrap .u64 (n3 * 2 ^ min (Int.toNat 8) 64)) ||| BitVec.ofInt 64 (IntKind.wrap .u64 (byteAt x0 n4)))) : Int)) (IntKind.wrap .i64 (n4 + 1)) w5 ∧
 I2 (IntKind.wrap .u64 (↑(BitVec.toNat (BitVec.ofInt 64 (IntKind.wrap .u64 (n3 * 2 ^ min (Int.toNat 8) 64)) ||| BitVec.ofInt 64 (IntKind.wrap .u64 (byteAt x0 n4)))) : Int)) (IntKind.wrap .i64 (n4 + 1)) w5 < I2 n3 n4 w5))))) ∧
 (decide (n4 < (↑(ByteArray.size x0) : Int)) = false →
 R (Value.int .u64 n3) w5))))
theorem vc_sums_FromBig_ok {x0 : ByteArray} {w : World} {R : Value → World → Prop} {R' : Ending → World → Prop} (h : vc_sums_FromBig x0 w R) (hR : ∀ v w', R v w' → R' (.returned v) w') :
    Calls Tryz.prog 77 #[.string x0] w R' :=
  calls_of_body (vs := [(.string x0, false)]) (ty := ty) (ann := ⟨[], [(3, [(3, .int .u64), (7, .int .i64)])], [], []⟩) (c := Tryz.f77.body.getD .skip) (by kernel_rfl) Tryz.func77 (by kernel_rfl) (by kernel_rfl) (Eq.mp (by kernel_rfl) h) hR
def vc_sums_Big (x0 : Int) (x1 : Int) (w : World) (R : Value → World → Prop) : Prop :=
 ∃ I1 : Sl → Int → World → Prop, ∃ I2 : Sl → Int → World → Nat, (I1 (Sl.mk none 0 0) 0 w ∧
 ∀ l3 : Sl,
 ∀ n4 : Int,
 ∀ w5 : World,
 (I1 l3 n4 w5 →
 ((((decide (n4 < if 0 > x1 then 0 else x1) = true) →
 (((decide (IntKind.wrap .i64 (x1 - n4) > 8) = true →
 ∀ w6 : World,
 (w6 = World.alloc w5 (Obj.cells (Array.mk [Value.int .u8 0]) 5) →
 ∃ w7 : World, ∃ l8 : Sl, (Sem.run Tryz.prog (Builtin.append_ (Array.mk [108, 108]) 108 (Array.mk [Value.slice l3.1 l3.2 l3.3, Value.slice (some (Addr.mk (Array.size (World.heap w5)) 0 none)) 1 1])) w6 = Result.ok (Value.slice l8.1 l8.2 l8.3) w7 ∧
 (I1 (Sl.mk l8.1 l8.2 l8.3) (IntKind.wrap .i64 (n4 + 1)) w7 ∧
 I2 (Sl.mk l8.1 l8.2 l8.3) (IntKind.wrap .i64 (n4 + 1)) w7 < I2 l3 n4 w5))))) ∧
 (decide (IntKind.wrap .i64 (x1 - n4) > 8) = false →
 (0 ≤ IntKind.wrap .i64 (8 * IntKind.wrap .i64 (IntKind.wrap .i64 (x1 - 1) - n4)) ∧
 ∀ w9 : World,
 (w9 = World.alloc w5 (Obj.cells (Array.mk [Value.int .u8 (IntKind.wrap .u8 (Int.fdiv x0 (2 ^ min (Int.toNat (IntKind.wrap .i64 (8 * IntKind.wrap .i64 (IntKind.wrap .i64 (x1 - 1) - n4)))) 64)))]) 5) →
 ∃ w10 : World, ∃ l11 : Sl, (Sem.run Tryz.prog (Builtin.append_ (Array.mk [108, 108]) 108 (Array.mk [Value.slice l3.1 l3.2 l3.3, Value.slice (some (Addr.mk (Array.size (World.heap w5)) 0 none)) 1 1])) w9 = Result.ok (Value.slice l11.1 l11.2 l11.3) w10 ∧
 (I1 (Sl.mk l11.1 l11.2 l11.3) (IntKind.wrap .i64 (n4 + 1)) w10 ∧
 I2 (Sl.mk l11.1 l11.2 l11.3) (IntKind.wrap .i64 (n4 + 1)) w10 < I2 l3 n4 w5)))))))) ∧
 ((decide (n4 < if 0 > x1 then 0 else x1) = false) →
 ∃ w12 : World, ∃ s13 : ByteArray, (Sem.run Tryz.prog (convert 108 9 (Value.slice l3.1 l3.2 l3.3)) w5 = Result.ok (Value.string s13) w12 ∧
 R (Value.string s13) w12)))))
theorem vc_sums_Big_ok {x0 : Int} {x1 : Int} {w : World} {R : Value → World → Prop} {R' : Ending → World → Prop} (h : vc_sums_Big x0 x1 w R) (hR : ∀ v w', R v w' → R' (.returned v) w') :
    Calls Tryz.prog 102 #[.int .u64 x0, .int .i64 x1] w R' :=
  calls_of_body (vs := [(.int .u64 x0, false), (.int .i64 x1, false)]) (ty := ty) (ann := ⟨[], [(3, [(5, .slice), (9, .int .i64)])], [], []⟩) (c := Tryz.f102.body.getD .skip) (by kernel_rfl) Tryz.func102 (by kernel_rfl) (by kernel_rfl) (Eq.mp (by kernel_rfl) h) hR
end Go.Proofs.YtllegkmadljmaaaGreatDoor

/- FromBig and Big. Conditions: the numbers are within their kinds. -/
set_option linter.unusedVariables false
namespace Go.Proofs.YtllegkmadljmaaaGreatDoor
open Go Vc SumM Go.Proofs

/-- 'FromBig'. -/
theorem frombig_spec (s : ByteArray) (hs : s.size ≤ 8) (w : World) :
    Calls Tryz.prog F_sums_FromBig #[.string s] w fun e w' => e = .returned (.int .u64 ((num8 s.data.toList : Nat) : Int)) ∧ w' = w := by
  refine vc_sums_FromBig_ok (R := fun v w' => v = .int .u64 ((num8 s.data.toList : Nat) : Int) ∧ w' = w) ?_ (fun v w' h => ⟨by rw [h.1], h.2⟩)
  refine ⟨fun a i w5 => ∃ n : Nat, i = (n : Int) ∧ n ≤ s.size ∧ a = ((num8 (s.data.toList.take n) : Nat) : Int) ∧ w5 = w, fun a i w5 => s.size - i.toNat, ⟨0, rfl, Nat.zero_le _, rfl, rfl⟩, ?_⟩
  rintro a i w5 ⟨n, rfl, hn, rfl, hw⟩
  replace hw := hw.symm
  subst hw
  refine ⟨fun hlt => ?_, fun hge => ?_⟩
  · have hlt := of_decide_eq_true hlt
    have hb := byt_lt s n
    have hl : (s.data.toList.take n).length = n := by rw [List.length_take]; simp; omega
    have hv := num8_lt n _ hl
    have hp : 256 ^ n ≤ 256 ^ 7 := Nat.pow_le_pow_right (by decide) (by omega)
    have hsn := num8_snoc (s.data.toList.take n) (UInt8.ofNat (byt s n))
    rw [← take_byt s (by omega), toNat_byt] at hsn
    have hor : 2 ^ 8 * num8 (s.data.toList.take n) ||| byt s n = 2 ^ 8 * num8 (s.data.toList.take n) + byt s n := (Nat.two_pow_add_eq_or_of_lt hb _).symm
    generalize num8 (s.data.toList.take n) = x at hsn hv hor ⊢
    have e0 : (x : Int) * 2 ^ min (Int.toNat 8) 64 = ((2 ^ 8 * x : Nat) : Int) := by
      rw [show (2 : Int) ^ min (Int.toNat 8) 64 = ((2 ^ 8 : Nat) : Int) from rfl, ← Int.natCast_mul, Nat.mul_comm]
    have e2 : IntKind.u64.wrap (((BitVec.ofInt 64 (IntKind.u64.wrap ((x : Int) * 2 ^ min (Int.toNat 8) 64)) ||| BitVec.ofInt 64 (IntKind.u64.wrap (byteAt s (n : Int)))).toNat : Nat) : Int) = ((num8 (s.data.toList.take (n + 1)) : Nat) : Int) := by
      rw [e0, byteAt_nat, wrap_u64 (x := ((2 ^ 8 * x : Nat) : Int)) (by omega) (by omega), wrap_u64 (x := ((byt s n : Nat) : Int)) (by omega) (by omega), or_nat 64 _ _ (by omega) (by omega), hor, wrap_u64 (by omega) (by omega), hsn]
    have e3 : IntKind.i64.wrap ((n : Int) + 1) = ((n + 1 : Nat) : Int) := by rw [wrap_i64 (by omega) (by omega)]; omega
    refine ⟨by decide, ⟨by omega, by omega⟩, ?_⟩
    rw [e2, e3]
    exact ⟨⟨n + 1, rfl, by omega, rfl, rfl⟩, by dsimp only; omega⟩
  · have hge := of_decide_eq_false hge
    have : n = s.size := by omega
    subst this
    rw [take_size]
    exact ⟨rfl, rfl⟩
/-- 'Big'. -/
theorem big_spec (x n : Nat) (hx : x < 18446744073709551616) (hn : n ≤ 1000) (w : World) :
    Calls Tryz.prog F_sums_Big #[.int .u64 (x : Int), .int .i64 (n : Int)] w fun e w' => e = .returned (.string ⟨(bigB n x).toArray⟩) ∧ Fr (fun _ => False) w w' := by
  refine vc_sums_Big_ok (R := fun v w' => v = .string ⟨(bigB n x).toArray⟩ ∧ Fr (fun _ => False) w w') ?_ (fun v w' h => ⟨by rw [h.1], h.2⟩)
  have hlim : (if (0 : Int) > (n : Int) then 0 else (n : Int)) = (n : Int) := by rw [if_neg (by omega)]
  refine ⟨fun l i w' => ∃ k : Nat, i = (k : Int) ∧ k ≤ n ∧ Vc.Own w' w.heap.size T_uint8 l (byteV ((bigB n x).take k)) ∧ Fr (fun _ => False) w w', fun l i w' => n - i.toNat, ⟨0, rfl, Nat.zero_le _, .nil _ _ _, .refl _ _⟩, ?_⟩
  rintro l3 i w5 ⟨k, rfl, hk, ho, hf⟩
  rw [hlim]
  have e3 : IntKind.i64.wrap ((k : Int) + 1) = ((k + 1 : Nat) : Int) := by rw [wrap_i64 (by omega) (by omega)]; omega
  rw [e3]
  have hln : (byteV ((bigB n x).take k)).length = k := by simp [byteV, bigB_length]; omega
  refine ⟨fun hlt => ?_, fun hge => ?_⟩
  · have hlt := of_decide_eq_true hlt
    have step : ∀ z : Int, byteV ((bigB n x).take k) ++ [.int .u8 z] = byteV ((bigB n x).take (k + 1)) → ∀ w6, w6 = w5.alloc (.cells #[.int .u8 z] T_uint8) → ∃ w7 l8, (Builtin.append_ #[T_S_uint8, T_S_uint8] T_S_uint8 #[.slice l3.a l3.len l3.cap, .slice (some ⟨w5.heap.size, 0, none⟩) 1 1]).run Tryz.prog w6 = .ok (.slice l8.a l8.len l8.cap) w7 ∧
        ((∃ j : Nat, ((k + 1 : Nat) : Int) = (j : Int) ∧ j ≤ n ∧ Vc.Own w7 w.heap.size T_uint8 l8 (byteV ((bigB n x).take j)) ∧ Fr (fun _ => False) w w7) ∧ n - ((k + 1 : Nat) : Int).toNat < n - ((k : Int)).toNat) := fun z hz w6 h6 => by
      obtain ⟨w7, l8, hr, ho7, hf7, _⟩ := append_one' elByte ho (v := .int .u8 z) rfl (by rw [hln]; unfold maxLen; omega) (by rw [hln]; omega) hf.size h6
      rw [hz] at ho7
      exact ⟨w7, l8, hr, ⟨k + 1, rfl, by omega, ho7, hf.trans hf7 fun q hq ⟨y, hy, e⟩ => by have := (ho.blk hy).1; omega⟩, by omega⟩
    refine ⟨fun h8 => step 0 ?_, fun h8 => ?_⟩
    · have h8 := of_decide_eq_true h8
      rw [wrap_i64 (by omega) (by omega)] at h8
      rw [bigB_get (by omega), pow_big hx (by omega)]
      exact byteV_snoc _ 0 (by decide)
    · have h8 := of_decide_eq_false h8
      rw [wrap_i64 (by omega) (by omega)] at h8
      have e4 : IntKind.i64.wrap (8 * IntKind.i64.wrap (IntKind.i64.wrap ((n : Int) - 1) - (k : Int))) = ((8 * (n - 1 - k) : Nat) : Int) := by
        rw [wrap_i64 (x := (n : Int) - 1) (by omega) (by omega), wrap_i64 (x := (n : Int) - 1 - (k : Int)) (by omega) (by omega), wrap_i64 (by omega) (by omega)]; omega
      rw [e4, shift_byte, if_pos (by omega)]
      refine ⟨by omega, step _ ?_⟩
      rw [byteV_wrap _ _ (Int.natCast_nonneg _), Int.toNat_natCast, bigB_get (by omega)]
  · have hge := of_decide_eq_false hge
    have : k = n := by omega
    subst this
    rw [List.take_of_length_le (by rw [bigB_length]; omega)] at ho
    exact ⟨_, _, bytes_str (e := T_uint8) (by kernel_rfl) (by kernel_rfl) (by kernel_rfl) l3.cap ho.reads (by rw [ho.len]; simp [byteV]), rfl, hf⟩
end Go.Proofs.YtllegkmadljmaaaGreatDoor

/- Formulas of 1 Go functions of this seat (written by a program of the author's, vcgen.py), and that each is enough for the call. No condition. -/
set_option linter.unusedVariables false
namespace Go.Proofs.YtllegkmadljmaaaGreatDoor
open Go Vc Go.Proofs
set_option maxRecDepth 100000
def vc_sums_Little (x0 : Int) (x1 : Int) (w : World) (R : Value → World → Prop) : Prop :=
 ∃ I1 : Sl → Int → World → Prop, ∃ I2 : Sl → Int → World → Nat, (I1 (Sl.mk none 0 0) 0 w ∧
 ∀ l3 : Sl,
 ∀ n4 : Int,
 ∀ w5 : World,
 (I1 l3 n4 w5 →
 ((((decide (n4 < if 0 > x1 then 0 else x1) = true) →
 (((decide (n4 ≥ 8) = true →
 ∀ w6 : World,
 (w6 = World.alloc w5 (Obj.cells (Array.mk [Value.int .u8 0]) 5) →
 ∃ w7 : World, ∃ l8 : Sl, (Sem.run Tryz.prog (Builtin.append_ (Array.mk [108, 108]) 108 (Array.mk [Value.slice l3.1 l3.2 l3.3, Value.slice (some (Addr.mk (Array.size (World.heap w5)) 0 none)) 1 1])) w6 = Result.ok (Value.slice l8.1 l8.2 l8.3) w7 ∧
 (I1 (Sl.mk l8.1 l8.2 l8.3) (IntKind.wrap .i64 (n4 + 1)) w7 ∧
 I2 (Sl.mk l8.1 l8.2 l8.3) (IntKind.wrap .i64 (n4 + 1)) w7 < I2 l3 n4 w5))))) ∧
 (decide (n4 ≥ 8) = false →
 (0 ≤ IntKind.wrap .i64 (8 * n4) ∧
 ∀ w9 : World,
 (w9 = World.alloc w5 (Obj.cells (Array.mk [Value.int .u8 (IntKind.wrap .u8 (Int.fdiv x0 (2 ^ min (Int.toNat (IntKind.wrap .i64 (8 * n4))) 64)))]) 5) →
 ∃ w10 : World, ∃ l11 : Sl, (Sem.run Tryz.prog (Builtin.append_ (Array.mk [108, 108]) 108 (Array.mk [Value.slice l3.1 l3.2 l3.3, Value.slice (some (Addr.mk (Array.size (World.heap w5)) 0 none)) 1 1])) w9 = Result.ok (Value.slice l11.1 l11.2 l11.3) w10 ∧
 (I1 (Sl.mk l11.1 l11.2 l11.3) (IntKind.wrap .i64 (n4 + 1)) w10 ∧
 I2 (Sl.mk l11.1 l11.2 l11.3) (IntKind.wrap .i64 (n4 + 1)) w10 < I2 l3 n4 w5)))))))) ∧
 ((decide (n4 < if 0 > x1 then 0 else x1) = false) →
 ∃ w12 : World, ∃ s13 : ByteArray, (Sem.run Tryz.prog (convert 108 9 (Value.slice l3.1 l3.2 l3.3)) w5 = Result.ok (Value.string s13) w12 ∧
 R (Value.string s13) w12)))))
theorem vc_sums_Little_ok {x0 : Int} {x1 : Int} {w : World} {R : Value → World → Prop} {R' : Ending → World → Prop} (h : vc_sums_Little x0 x1 w R) (hR : ∀ v w', R v w' → R' (.returned v) w') :
    Calls Tryz.prog 149 #[.int .u64 x0, .int .i64 x1] w R' :=
  calls_of_body (vs := [(.int .u64 x0, false), (.int .i64 x1, false)]) (ty := ty) (ann := ⟨[], [(3, [(5, .slice), (9, .int .i64)])], [], []⟩) (c := Tryz.f149.body.getD .skip) (by kernel_rfl) Tryz.func149 (by kernel_rfl) (by kernel_rfl) (Eq.mp (by kernel_rfl) h) hR
end Go.Proofs.YtllegkmadljmaaaGreatDoor

/- Little. Conditions: the numbers are within their kinds. -/
set_option linter.unusedVariables false
namespace Go.Proofs.YtllegkmadljmaaaGreatDoor
open Go Vc SumM Go.Proofs

/-- 'Little'. -/
theorem littleS_spec (x n : Nat) (hx : x < 18446744073709551616) (hn : n ≤ 1000) (w : World) :
    Calls Tryz.prog F_sums_Little #[.int .u64 (x : Int), .int .i64 (n : Int)] w fun e w' => e = .returned (.string ⟨(littleB n x).toArray⟩) ∧ Fr (fun _ => False) w w' := by
  refine vc_sums_Little_ok (R := fun v w' => v = .string ⟨(littleB n x).toArray⟩ ∧ Fr (fun _ => False) w w') ?_ (fun v w' h => ⟨by rw [h.1], h.2⟩)
  have hlim : (if (0 : Int) > (n : Int) then 0 else (n : Int)) = (n : Int) := by rw [if_neg (by omega)]
  refine ⟨fun l i w' => ∃ k : Nat, i = (k : Int) ∧ k ≤ n ∧ Vc.Own w' w.heap.size T_uint8 l (byteV ((littleB n x).take k)) ∧ Fr (fun _ => False) w w', fun l i w' => n - i.toNat, ⟨0, rfl, Nat.zero_le _, .nil _ _ _, .refl _ _⟩, ?_⟩
  rintro l3 i w5 ⟨k, rfl, hk, ho, hf⟩
  rw [hlim]
  have e3 : IntKind.i64.wrap ((k : Int) + 1) = ((k + 1 : Nat) : Int) := by rw [wrap_i64 (by omega) (by omega)]; omega
  rw [e3]
  have hln : (byteV ((littleB n x).take k)).length = k := by simp [byteV, littleB_length]; omega
  refine ⟨fun hlt => ?_, fun hge => ?_⟩
  · have hlt := of_decide_eq_true hlt
    have step : ∀ z : Int, byteV ((littleB n x).take k) ++ [.int .u8 z] = byteV ((littleB n x).take (k + 1)) → ∀ w6, w6 = w5.alloc (.cells #[.int .u8 z] T_uint8) → ∃ w7 l8, (Builtin.append_ #[T_S_uint8, T_S_uint8] T_S_uint8 #[.slice l3.a l3.len l3.cap, .slice (some ⟨w5.heap.size, 0, none⟩) 1 1]).run Tryz.prog w6 = .ok (.slice l8.a l8.len l8.cap) w7 ∧
        ((∃ j : Nat, ((k + 1 : Nat) : Int) = (j : Int) ∧ j ≤ n ∧ Vc.Own w7 w.heap.size T_uint8 l8 (byteV ((littleB n x).take j)) ∧ Fr (fun _ => False) w w7) ∧ n - ((k + 1 : Nat) : Int).toNat < n - ((k : Int)).toNat) := fun z hz w6 h6 => by
      obtain ⟨w7, l8, hr, ho7, hf7, _⟩ := append_one' elByte ho (v := .int .u8 z) rfl (by rw [hln]; unfold maxLen; omega) (by rw [hln]; omega) hf.size h6
      rw [hz] at ho7
      exact ⟨w7, l8, hr, ⟨k + 1, rfl, by omega, ho7, hf.trans hf7 fun q hq ⟨y, hy, e⟩ => by have := (ho.blk hy).1; omega⟩, by omega⟩
    refine ⟨fun h8 => step 0 ?_, fun h8 => ?_⟩
    · have h8 := of_decide_eq_true h8
      rw [littleB_get (by omega), pow_big hx (by omega)]
      exact byteV_snoc _ 0 (by decide)
    · have h8 := of_decide_eq_false h8
      have e4 : IntKind.i64.wrap (8 * (k : Int)) = ((8 * k : Nat) : Int) := by rw [wrap_i64 (by omega) (by omega)]; omega
      rw [e4, shift_byte, if_pos (by omega)]
      refine ⟨by omega, step _ ?_⟩
      rw [byteV_wrap _ _ (Int.natCast_nonneg _), Int.toNat_natCast, littleB_get (by omega)]
  · have hge := of_decide_eq_false hge
    have : k = n := by omega
    subst this
    rw [List.take_of_length_le (by rw [littleB_length]; omega)] at ho
    exact ⟨_, _, bytes_str (e := T_uint8) (by kernel_rfl) (by kernel_rfl) (by kernel_rfl) l3.cap ho.reads (by rw [ho.len]; simp [byteV]), rfl, hf⟩
end Go.Proofs.YtllegkmadljmaaaGreatDoor

/- Formulas of 3 Go functions of this seat (written by a program of the author's, vcgen.py), and that each is enough for the call. No condition. -/
set_option linter.unusedVariables false
namespace Go.Proofs.YtllegkmadljmaaaGreatDoor
open Go Vc Go.Proofs
set_option maxRecDepth 100000
def vc_sums_Adler_Write (x0 : Nat) (x1 : ByteArray) (w : World) (R : Value → World → Prop) : Prop :=
 ∃ I1 : Int → World → Prop, ∃ I2 : Int → World → Nat, (I1 0 w ∧
 ∀ n3 : Int,
 ∀ w4 : World,
 (I1 n3 w4 →
 (((decide (n3 < (↑(ByteArray.size x1) : Int)) = true →
 ∀ w5 : World,
 (Drew w4 w5 →
 ∃ n6 : Int, (World.cell? w5 (Addr.mk x0 0 none) = some (Value.int .u32 n6) ∧
 ((0 ≤ n3 ∧
 n3 < (↑(ByteArray.size x1) : Int)) ∧
 ((65521 : Int) ≠ (0 : Int) ∧
 (Wr w5 (Addr.mk x0 0 none) ∧
 ∀ w7 : World,
 (w7 = World.setCell w5 (Addr.mk x0 0 none) (Value.int .u32 (Int.tmod (IntKind.wrap .u32 (n6 + IntKind.wrap .u32 (byteAt x1 n3))) 65521)) →
 ∀ w8 : World,
 (Drew w7 w8 →
 ∃ n9 : Int, (World.cell? w8 (Addr.mk x0 1 none) = some (Value.int .u32 n9) ∧
 ∃ n10 : Int, (World.cell? w8 (Addr.mk x0 0 none) = some (Value.int .u32 n10) ∧
 ((65521 : Int) ≠ (0 : Int) ∧
 (Wr w8 (Addr.mk x0 1 none) ∧
 ∀ w11 : World,
 (w11 = World.setCell w8 (Addr.mk x0 1 none) (Value.int .u32 (Int.tmod (IntKind.wrap .u32 (IntKind.wrap .u32 (n9 + n10) + 1)) 65521)) →
 (I1 (IntKind.wrap .i64 (n3 + 1)) w11 ∧
 I2 (IntKind.wrap .i64 (n3 + 1)) w11 < I2 n3 w4))))))))))))))) ∧
 (decide (n3 < (↑(ByteArray.size x1) : Int)) = false →
 R (Value.tuple (Array.mk [])) w4))))
theorem vc_sums_Adler_Write_ok {x0 : Nat} {x1 : ByteArray} {w : World} {R : Value → World → Prop} {R' : Ending → World → Prop} (h : vc_sums_Adler_Write x0 x1 w R) (hR : ∀ v w', R v w' → R' (.returned v) w') :
    Calls Tryz.prog 145 #[.pointer (some ⟨x0, 0, none⟩), .string x1] w R' :=
  calls_of_body (vs := [(.pointer (some ⟨x0, 0, none⟩), true), (.string x1, false)]) (ty := ty) (ann := ⟨[], [(1, [(7, .int .i64)])], [(3, .tail 13), (4, .tail 14)], []⟩) (c := Tryz.f145.body.getD .skip) (by kernel_rfl) Tryz.func145 (by kernel_rfl) (by kernel_rfl) (Eq.mp (by kernel_rfl) h) hR
def vc_sums_Adler_Sum (x0 : Nat) (w : World) (R : Value → World → Prop) : Prop :=
 ∃ n1 : Int, (World.cell? w (Addr.mk x0 1 none) = some (Value.int .u32 n1) ∧
 ((0 : Int) ≤ (16 : Int) ∧
 ∃ n2 : Int, (World.cell? w (Addr.mk x0 0 none) = some (Value.int .u32 n2) ∧
 ((65521 : Int) ≠ (0 : Int) ∧
 ∀ w3 : World,
 (Drew w w3 →
 R (Value.int .u32 (IntKind.wrap .u32 (↑(BitVec.toNat (BitVec.ofInt 32 (IntKind.wrap .u32 (n1 * 2 ^ min (Int.toNat 16) 32)) ||| BitVec.ofInt 32 (Int.tmod (IntKind.wrap .u32 (n2 + 1)) 65521))) : Int))) w3)))))
theorem vc_sums_Adler_Sum_ok {x0 : Nat} {w : World} {R : Value → World → Prop} {R' : Ending → World → Prop} (h : vc_sums_Adler_Sum x0 w R) (hR : ∀ v w', R v w' → R' (.returned v) w') :
    Calls Tryz.prog 146 #[.pointer (some ⟨x0, 0, none⟩)] w R' :=
  calls_of_body (vs := [(.pointer (some ⟨x0, 0, none⟩), true)]) (ty := ty) (ann := ⟨[], [], [(1, .quiet)], []⟩) (c := Tryz.f146.body.getD .skip) (by kernel_rfl) Tryz.func146 (by kernel_rfl) (by kernel_rfl) (Eq.mp (by kernel_rfl) h) hR
def vc_sums_Adler32 (x0 : ByteArray) (w : World) (R : Value → World → Prop) : Prop :=
 ∀ w1 : World,
 (w1 = World.alloc w (Obj.cells (Array.mk [Value.int .u32 0, Value.int .u32 0]) 207) →
 Calls Tryz.prog (145 : Nat) (Array.mk [Value.pointer (some (Addr.mk (Array.size (World.heap w)) 0 none)), Value.string x0]) (w1) (fun e2 w3 =>
 (e2 = Ending.returned (Value.tuple (Array.mk [])) ∧
 Calls Tryz.prog (146 : Nat) (Array.mk [Value.pointer (some (Addr.mk (Array.size (World.heap w)) 0 none))]) (w3) (fun e4 w5 =>
 ∃ n6 : Int, (e4 = Ending.returned (Value.int .u32 n6) ∧
 R (Value.int .u32 n6) w5)))))
theorem vc_sums_Adler32_ok {x0 : ByteArray} {w : World} {R : Value → World → Prop} {R' : Ending → World → Prop} (h : vc_sums_Adler32 x0 w R) (hR : ∀ v w', R v w' → R' (.returned v) w') :
    Calls Tryz.prog 103 #[.string x0] w R' :=
  calls_of_body (vs := [(.string x0, false)]) (ty := ty) (ann := ⟨[], [], [], []⟩) (c := Tryz.f103.body.getD .skip) (by kernel_rfl) Tryz.func103 (by kernel_rfl) (by kernel_rfl) (Eq.mp (by kernel_rfl) h) hR
end Go.Proofs.YtllegkmadljmaaaGreatDoor

/- Adler's sum. Conditions: the texts are short enough. -/
set_option linter.unusedVariables false
namespace Go.Proofs.YtllegkmadljmaaaGreatDoor
open Go Vc SumM Go.Proofs

/-- Adler's sum as the program keeps it: the first number is one less than it is told. -/
def AdlC (w : World) (b : Nat) (l : List UInt8) : Prop := ∃ a : Nat, a < 65521 ∧ (a + 1) % 65521 = (adl l).1 ∧ w.heap[b]? = some (.cells #[.int .u32 (a : Int), .int .u32 ((adl l).2 : Int)] T_sums_Adler (0, 0))
theorem AdlC.drew {w w' : World} {b : Nat} {l : List UInt8} (h : AdlC w b l) (d : Drew w w') : AdlC w' b l := by
  obtain ⟨a, h1, h2, h3⟩ := h
  exact ⟨a, h1, h2, (Fr.drew (fun _ => False) d).keep h3 (by simp)⟩
theorem adlerW_spec {w : World} {b : Nat} {l : List UInt8} (h : AdlC w b l) (s : ByteArray) (hs : s.size ≤ 1099511627776) :
    Calls Tryz.prog F_sums_Adler_Write #[.pointer (some ⟨b, 0, none⟩), .string s] w fun e w' => e = .returned (.tuple #[]) ∧ AdlC w' b (l ++ s.data.toList) ∧ Fr (· = b) w w' := by
  refine vc_sums_Adler_Write_ok (R := fun v w' => v = .tuple #[] ∧ AdlC w' b (l ++ s.data.toList) ∧ Fr (· = b) w w') ?_ (fun v w' h => ⟨by rw [h.1], h.2⟩)
  refine ⟨fun i w' => ∃ n : Nat, i = (n : Int) ∧ n ≤ s.size ∧ AdlC w' b (l ++ s.data.toList.take n) ∧ Fr (· = b) w w', fun i w' => s.size - i.toNat, ⟨0, rfl, Nat.zero_le _, by simpa using h, .refl _ _⟩, ?_⟩
  rintro i w4 ⟨n, rfl, hn, hA, hf⟩
  refine ⟨fun hlt w5 d5 => ?_, fun hge => ?_⟩
  · have hlt := of_decide_eq_true hlt
    have hb := byt_lt s n
    obtain ⟨a, ha, h1, h2⟩ := hA.drew d5
    have hlt2 := adl_lt (l ++ s.data.toList.take n)
    have hsn := adl_snoc (l ++ s.data.toList.take n) (UInt8.ofNat (byt s n))
    rw [List.append_assoc, ← take_byt s (by omega)] at hsn
    simp only [adl1, toNat_byt] at hsn
    generalize adl (l ++ s.data.toList.take n) = x at h1 h2 hlt2 hsn
    have e1 : Int.tmod (IntKind.u32.wrap ((a : Int) + IntKind.u32.wrap (byteAt s (n : Int)))) 65521 = (((a + byt s n) % 65521 : Nat) : Int) := by
      rw [byteAt_nat, wrap_u32 (x := ((byt s n : Nat) : Int)) (by omega) (by omega), wrap_u32 (by omega) (by omega), Int.tmod_eq_emod_of_nonneg (by omega)]; omega
    refine ⟨_, by rw [cell_blk h2]; rfl, ⟨by omega, by omega⟩, by decide, wr_blk h2 (by simp), fun w7 h7 w8 d8 => ?_⟩
    rw [e1] at h7
    have hf7 : Fr (· = b) w5 w7 := h7 ▸ Fr.set (· = b) _ (a := ⟨b, 0, none⟩) (.int .u32 (((a + byt s n) % 65521 : Nat) : Int)) rfl
    have hb7 := set_blk h2 0 (.int .u32 (((a + byt s n) % 65521 : Nat) : Int))
    rw [← h7] at hb7
    have hb8 := (Fr.drew (fun _ => False) d8).keep hb7 (by simp)
    have hr : (a + byt s n) % 65521 < 65521 := Nat.mod_lt _ (by decide)
    have hr1 : ((a + byt s n) % 65521 + 1) % 65521 = (x.1 + byt s n) % 65521 := by omega
    generalize (a + byt s n) % 65521 = a2 at hb8 hr hr1
    have e2 : Int.tmod (IntKind.u32.wrap (IntKind.u32.wrap ((x.2 : Int) + (a2 : Int)) + 1)) 65521 = (((x.2 + a2 + 1) % 65521 : Nat) : Int) := by
      rw [wrap_u32 (x := (x.2 : Int) + (a2 : Int)) (by omega) (by omega), wrap_u32 (by omega) (by omega), Int.tmod_eq_emod_of_nonneg (by omega)]; omega
    refine ⟨_, by rw [cell_blk hb8]; rfl, _, by rw [cell_blk hb8]; rfl, by decide, wr_blk hb8 (by simp), fun w11 h11 => ?_⟩
    rw [e2] at h11
    have hf11 : Fr (· = b) w8 w11 := h11 ▸ Fr.set (· = b) _ (a := ⟨b, 1, none⟩) (.int .u32 (((x.2 + a2 + 1) % 65521 : Nat) : Int)) rfl
    have hb11 := set_blk hb8 1 (.int .u32 (((x.2 + a2 + 1) % 65521 : Nat) : Int))
    rw [← h11] at hb11
    have e3 : IntKind.i64.wrap ((n : Int) + 1) = ((n + 1 : Nat) : Int) := by rw [wrap_i64 (by omega) (by omega)]; omega
    rw [e3]
    refine ⟨⟨n + 1, rfl, by omega, ⟨a2, hr, by rw [hsn]; exact hr1, ?_⟩, (((hf.trans' (.drew _ d5)).trans' hf7).trans' (.drew _ d8)).trans' hf11⟩, by dsimp only; omega⟩
    rw [hsn, hb11]
    dsimp only
    rw [show (x.2 + (x.1 + byt s n) % 65521) % 65521 = (x.2 + a2 + 1) % 65521 by omega]
    rfl
  · have hge := of_decide_eq_false hge
    have : n = s.size := by omega
    subst this
    rw [take_size] at hA
    exact ⟨rfl, hA, hf⟩
theorem adlerS_spec {w : World} {b : Nat} {l : List UInt8} (h : AdlC w b l) :
    Calls Tryz.prog F_sums_Adler_Sum #[.pointer (some ⟨b, 0, none⟩)] w fun e w' => e = .returned (.int .u32 ((adler l : Nat) : Int)) ∧ Drew w w' := by
  refine vc_sums_Adler_Sum_ok (R := fun v w' => v = .int .u32 ((adler l : Nat) : Int) ∧ Drew w w') ?_ (fun v w' h => ⟨by rw [h.1], h.2⟩)
  obtain ⟨a, ha, h1, h2⟩ := h
  have hlt := adl_lt l
  refine ⟨_, by rw [cell_blk h2]; rfl, by decide, _, by rw [cell_blk h2]; rfl, by decide, fun w3 d3 => ⟨?_, d3⟩⟩
  have e1 : Int.tmod (IntKind.u32.wrap ((a : Int) + 1)) 65521 = (((adl l).1 : Nat) : Int) := by
    rw [wrap_u32 (by omega) (by omega), Int.tmod_eq_emod_of_nonneg (by omega)]; omega
  have e2 : (((adl l).2 : Nat) : Int) * 2 ^ min (Int.toNat 16) 32 = ((2 ^ 16 * (adl l).2 : Nat) : Int) := by
    rw [show (2 : Int) ^ min (Int.toNat 16) 32 = ((2 ^ 16 : Nat) : Int) from rfl, ← Int.natCast_mul, Nat.mul_comm]
  have hor : 2 ^ 16 * (adl l).2 ||| (adl l).1 = 2 ^ 16 * (adl l).2 + (adl l).1 := (Nat.two_pow_add_eq_or_of_lt (by omega) _).symm
  rw [e1, e2, wrap_u32 (x := ((2 ^ 16 * (adl l).2 : Nat) : Int)) (by omega) (by omega), or_nat 32 _ _ (by omega) (by omega), hor, wrap_u32 (by omega) (by omega)]
  rfl
/-- 'Adler32'. -/
theorem adler_spec (s : ByteArray) (hs : s.size ≤ 1099511627776) (w : World) :
    Calls Tryz.prog F_sums_Adler32 #[.string s] w fun e w' => e = .returned (.int .u32 ((adler s.data.toList : Nat) : Int)) ∧ Fr (fun _ => False) w w' := by
  refine vc_sums_Adler32_ok (R := fun v w' => v = .int .u32 ((adler s.data.toList : Nat) : Int) ∧ Fr (fun _ => False) w w') ?_ (fun v w' h => ⟨by rw [h.1], h.2⟩)
  intro w1 h1
  have hf1 : Fr (fun _ => False) w w1 := h1 ▸ Fr.alloc _ _ _
  have hA : AdlC w1 w.heap.size [] := ⟨0, by decide, rfl, by rw [h1]; exact alloc_new _ _⟩
  refine (adlerW_spec hA s hs).mono ?_
  rintro e w3 ⟨rfl, h3, hf3⟩
  refine ⟨rfl, (adlerS_spec h3).mono ?_⟩
  rintro e w5 ⟨rfl, d5⟩
  exact ⟨_, rfl, rfl, (hf1.trans hf3 (fun k hk h => by omega)).trans' (.drew _ d5)⟩
end Go.Proofs.YtllegkmadljmaaaGreatDoor

/- Formulas of 4 Go functions of this seat (written by a program of the author's, vcgen.py), and that each is enough for the call. No condition. -/
set_option linter.unusedVariables false
namespace Go.Proofs.YtllegkmadljmaaaGreatDoor
open Go Vc Go.Proofs
set_option maxRecDepth 100000
def vc_zlib_Head (x0 : Int) (x1 : Int) (w : World) (R : Value → World → Prop) : Prop :=
 ((((IntKind.wrap .u8 (↑(BitVec.toNat (BitVec.ofInt 8 x0 &&& BitVec.ofInt 8 15)) : Int) == 8) = true →
 ((0 : Int) ≤ (4 : Int) ∧
 (((decide (Int.fdiv x0 (2 ^ min (Int.toNat 4) 8) ≤ 7) = true →
 ((0 : Int) ≤ (8 : Int) ∧
 ((31 : Int) ≠ (0 : Int) ∧
 ((((Int.tmod (IntKind.wrap .i64 (↑(BitVec.toNat (BitVec.ofInt 64 (IntKind.wrap .i64 (IntKind.wrap .i64 x0 * 2 ^ min (Int.toNat 8) 64)) ||| BitVec.ofInt 64 (IntKind.wrap .i64 x1))) : Int)) 31 == 0) = true →
 R (Value.bool (IntKind.wrap .u8 (↑(BitVec.toNat (BitVec.ofInt 8 x1 &&& BitVec.ofInt 8 32)) : Int) == 0)) w)) ∧
 ((Int.tmod (IntKind.wrap .i64 (↑(BitVec.toNat (BitVec.ofInt 64 (IntKind.wrap .i64 (IntKind.wrap .i64 x0 * 2 ^ min (Int.toNat 8) 64)) ||| BitVec.ofInt 64 (IntKind.wrap .i64 x1))) : Int)) 31 == 0) = false →
 R (Value.bool false) w)))))) ∧
 (decide (Int.fdiv x0 (2 ^ min (Int.toNat 4) 8) ≤ 7) = false →
 R (Value.bool false) w))))) ∧
 ((IntKind.wrap .u8 (↑(BitVec.toNat (BitVec.ofInt 8 x0 &&& BitVec.ofInt 8 15)) : Int) == 8) = false →
 R (Value.bool false) w))
theorem vc_zlib_Head_ok {x0 : Int} {x1 : Int} {w : World} {R : Value → World → Prop} {R' : Ending → World → Prop} (h : vc_zlib_Head x0 x1 w R) (hR : ∀ v w', R v w' → R' (.returned v) w') :
    Calls Tryz.prog 178 #[.int .u8 x0, .int .u8 x1] w R' :=
  calls_of_body (vs := [(.int .u8 x0, false), (.int .u8 x1, false)]) (ty := ty) (ann := ⟨[], [], [], []⟩) (c := Tryz.f178.body.getD .skip) (by kernel_rfl) Tryz.func178 (by kernel_rfl) (by kernel_rfl) (Eq.mp (by kernel_rfl) h) hR
def vc_zlib_Read (x0 : ByteArray) (x1 : Int) (x2 : Int) (w : World) (R : Value → World → Prop) : Prop :=
 (((decide (x1 < 0) = true →
 R (Value.tuple (Array.mk [Value.string (ByteArray.mk (Array.mk [])), Value.int .i64 0, Value.int .i64 1])) w)) ∧
 (decide (x1 < 0) = false →
 (((decide (x1 > (↑(ByteArray.size x0) : Int)) = true →
 R (Value.tuple (Array.mk [Value.string (ByteArray.mk (Array.mk [])), Value.int .i64 0, Value.int .i64 1])) w)) ∧
 (decide (x1 > (↑(ByteArray.size x0) : Int)) = false →
 (((decide (x2 < 0) = true →
 R (Value.tuple (Array.mk [Value.string (ByteArray.mk (Array.mk [])), Value.int .i64 0, Value.int .i64 1])) w)) ∧
 (decide (x2 < 0) = false →
 (((decide (x2 > 65536) = true →
 R (Value.tuple (Array.mk [Value.string (ByteArray.mk (Array.mk [])), Value.int .i64 0, Value.int .i64 1])) w)) ∧
 (decide (x2 > 65536) = false →
 (((decide (IntKind.wrap .i64 ((↑(ByteArray.size x0) : Int) - x1) < 2) = true →
 R (Value.tuple (Array.mk [Value.string (ByteArray.mk (Array.mk [])), Value.int .i64 0, Value.int .i64 6])) w)) ∧
 (decide (IntKind.wrap .i64 ((↑(ByteArray.size x0) : Int) - x1) < 2) = false →
 ∀ w1 : World,
 (Drew w w1 →
 ∃ I2 : World → Prop, (I2 w1 ∧
 ((0 ≤ x1 ∧
 x1 < (↑(ByteArray.size x0) : Int)) ∧
 ((0 ≤ IntKind.wrap .i64 (x1 + 1) ∧
 IntKind.wrap .i64 (x1 + 1) < (↑(ByteArray.size x0) : Int)) ∧
 Calls Tryz.prog (178 : Nat) (Array.mk [Value.int .u8 (byteAt x0 x1), Value.int .u8 (byteAt x0 (IntKind.wrap .i64 (x1 + 1)))]) (w1) (fun e3 w4 =>
 ∃ b5 : Bool, (e3 = Ending.returned (Value.bool b5) ∧
 (I2 w4 ∧
 ((((!b5) = true →
 R (Value.tuple (Array.mk [Value.string (ByteArray.mk (Array.mk [])), Value.int .i64 0, Value.int .i64 3])) w4)) ∧
 ((!b5) = false →
 Calls Tryz.prog (179 : Nat) (Array.mk [Value.string x0, Value.int .i64 (IntKind.wrap .i64 (x1 + 2)), Value.int .i64 x2]) (w4) (fun e6 w7 =>
 ∃ s8 : ByteArray, ∃ n9 : Int, ∃ n10 : Int, (e6 = Ending.returned (Value.tuple (Array.mk [Value.string s8, Value.int .i64 n9, Value.int .i64 n10])) ∧
 ((((n10 != 0) = true →
 R (Value.tuple (Array.mk [Value.string (ByteArray.mk (Array.mk [])), Value.int .i64 0, Value.int .i64 n10])) w7)) ∧
 ((n10 != 0) = false →
 (((decide (IntKind.wrap .i64 ((↑(ByteArray.size x0) : Int) - IntKind.wrap .i64 (IntKind.wrap .i64 (x1 + 2) + n9)) < 4) = true →
 R (Value.tuple (Array.mk [Value.string (ByteArray.mk (Array.mk [])), Value.int .i64 0, Value.int .i64 6])) w7)) ∧
 (decide (IntKind.wrap .i64 ((↑(ByteArray.size x0) : Int) - IntKind.wrap .i64 (IntKind.wrap .i64 (x1 + 2) + n9)) < 4) = false →
 ((0 ≤ IntKind.wrap .i64 (IntKind.wrap .i64 (x1 + 2) + n9) ∧
 (IntKind.wrap .i64 (IntKind.wrap .i64 (x1 + 2) + n9) ≤ IntKind.wrap .i64 (IntKind.wrap .i64 (IntKind.wrap .i64 (x1 + 2) + n9) + 4) ∧
 IntKind.wrap .i64 (IntKind.wrap .i64 (IntKind.wrap .i64 (x1 + 2) + n9) + 4) ≤ (↑(ByteArray.size x0) : Int))) ∧
 Calls Tryz.prog (77 : Nat) (Array.mk [Value.string (ByteArray.extract x0 (Int.toNat (IntKind.wrap .i64 (IntKind.wrap .i64 (x1 + 2) + n9))) (Int.toNat (IntKind.wrap .i64 (IntKind.wrap .i64 (IntKind.wrap .i64 (x1 + 2) + n9) + 4))))]) (w7) (fun e11 w12 =>
 ∃ n13 : Int, (e11 = Ending.returned (Value.int .u64 n13) ∧
 Calls Tryz.prog (103 : Nat) (Array.mk [Value.string s8]) (w12) (fun e14 w15 =>
 ∃ n16 : Int, (e14 = Ending.returned (Value.int .u32 n16) ∧
 ((((IntKind.wrap .u32 n13 != n16) = true →
 R (Value.tuple (Array.mk [Value.string (ByteArray.mk (Array.mk [])), Value.int .i64 0, Value.int .i64 5])) w15)) ∧
 ((IntKind.wrap .u32 n13 != n16) = false →
 R (Value.tuple (Array.mk [Value.string s8, Value.int .i64 (IntKind.wrap .i64 (n9 + 6)), Value.int .i64 0])) w15))))))))))))))))))))))))))))))))
theorem vc_zlib_Read_ok {x0 : ByteArray} {x1 : Int} {x2 : Int} {w : World} {R : Value → World → Prop} {R' : Ending → World → Prop} (h : vc_zlib_Read x0 x1 x2 w R) (hR : ∀ v w', R v w' → R' (.returned v) w') :
    Calls Tryz.prog 156 #[.string x0, .int .i64 x1, .int .i64 x2] w R' :=
  calls_of_body (vs := [(.string x0, false), (.int .i64 x1, false), (.int .i64 x2, false)]) (ty := ty) (ann := ⟨[], [], [(5, .held [(0, true), (1, true), (2, true), (3, true), (4, true), (5, true), (6, true), (7, false), (8, true)])], []⟩) (c := Tryz.f156.body.getD .skip) (by kernel_rfl) Tryz.func156 (by kernel_rfl) (by kernel_rfl) (Eq.mp (by kernel_rfl) h) hR
def vc_zlib_frame (x0 : ByteArray) (x1 : ByteArray) (w : World) (R : Value → World → Prop) : Prop :=
 (ByteArray.size (ByteArray.mk (Array.mk [120, 1])) + ByteArray.size x0 ≤ 9223372036854775807 ∧
 Calls Tryz.prog (103 : Nat) (Array.mk [Value.string x1]) (w) (fun e1 w2 =>
 ∃ n3 : Int, (e1 = Ending.returned (Value.int .u32 n3) ∧
 Calls Tryz.prog (102 : Nat) (Array.mk [Value.int .u64 (IntKind.wrap .u64 n3), Value.int .i64 4]) (w2) (fun e4 w5 =>
 ∃ s6 : ByteArray, (e4 = Ending.returned (Value.string s6) ∧
 (ByteArray.size (ByteArray.mk (Array.mk [120, 1]) ++ x0) + ByteArray.size s6 ≤ 9223372036854775807 ∧
 R (Value.string (ByteArray.mk (Array.mk [120, 1]) ++ x0 ++ s6)) w5))))))
theorem vc_zlib_frame_ok {x0 : ByteArray} {x1 : ByteArray} {w : World} {R : Value → World → Prop} {R' : Ending → World → Prop} (h : vc_zlib_frame x0 x1 w R) (hR : ∀ v w', R v w' → R' (.returned v) w') :
    Calls Tryz.prog 69 #[.string x0, .string x1] w R' :=
  calls_of_body (vs := [(.string x0, false), (.string x1, false)]) (ty := ty) (ann := ⟨[], [], [], []⟩) (c := Tryz.f69.body.getD .skip) (by kernel_rfl) Tryz.func69 (by kernel_rfl) (by kernel_rfl) (Eq.mp (by kernel_rfl) h) hR
def vc_zlib_Write (x0 : ByteArray) (w : World) (R : Value → World → Prop) : Prop :=
 Calls Tryz.prog (70 : Nat) (Array.mk [Value.string x0]) (w) (fun e1 w2 =>
 ∃ s3 : ByteArray, (e1 = Ending.returned (Value.string s3) ∧
 Calls Tryz.prog (69 : Nat) (Array.mk [Value.string s3, Value.string x0]) (w2) (fun e4 w5 =>
 ∃ s6 : ByteArray, (e4 = Ending.returned (Value.string s6) ∧
 R (Value.string s6) w5))))
theorem vc_zlib_Write_ok {x0 : ByteArray} {w : World} {R : Value → World → Prop} {R' : Ending → World → Prop} (h : vc_zlib_Write x0 w R) (hR : ∀ v w', R v w' → R' (.returned v) w') :
    Calls Tryz.prog 34 #[.string x0] w R' :=
  calls_of_body (vs := [(.string x0, false)]) (ty := ty) (ann := ⟨[], [], [], []⟩) (c := Tryz.f34.body.getD .skip) (by kernel_rfl) Tryz.func34 (by kernel_rfl) (by kernel_rfl) (Eq.mp (by kernel_rfl) h) hR
end Go.Proofs.YtllegkmadljmaaaGreatDoor

/- The frame of RFC 1950: its head and its reading, of the program and of the reference. Conditions: bytes are bytes; the text is no longer than a slice may be. -/
set_option linter.unusedVariables false
namespace ZlM
open BitsM SumM Go.Proofs.YtllegkmadljmaaaGreatDoor
/-- Is it a head? -/
def head (a b : Nat) : Bool := a % 16 == 8 && (decide (a / 16 ≤ 7) && ((256 * a + b) % 31 == 0 && b / 32 % 2 == 0))
/-- The frame at a place: what it says, its bytes, the error's number. -/
noncomputable def read (s : List UInt8) (at_ most : Int) : List UInt8 × Nat × Nat :=
  if at_ < 0 ∨ (s.length : Int) < at_ ∨ most < 0 ∨ 65536 < most then ([], 0, 1)
  else if s.length < at_.toNat + 2 then ([], 0, 6)
  else if head (s.getD at_.toNat 0).toNat (s.getD (at_.toNat + 1) 0).toNat = false then ([], 0, 3)
  else if (InfM.inflate s (at_ + 2) most).2.2 ≠ 0 then ([], 0, (InfM.inflate s (at_ + 2) most).2.2)
  else if s.length < at_.toNat + 2 + (InfM.inflate s (at_ + 2) most).2.1 + 4 then ([], 0, 6)
  else if (s.drop (at_.toNat + 2 + (InfM.inflate s (at_ + 2) most).2.1)).take 4 ≠ bigB 4 (adler (InfM.inflate s (at_ + 2) most).1) then ([], 0, 5)
  else ((InfM.inflate s (at_ + 2) most).1, (InfM.inflate s (at_ + 2) most).2.1 + 6, 0)
/-- No more is taken than there is. -/
theorem inf_le {most : Nat} {B : List Bool} {out : List UInt8} {p : Nat} (h : InfM.inf most B = .ok (out, p)) : p ≤ B.length := by
  unfold InfM.inf at h
  have hc := InfM.blocks_cut (most := most) (Nat.le_refl B.length) (B.length + 1) (B.length + 1) 0 [] (Nat.zero_le _) (by omega) out p h
  rw [List.take_length, h] at hc
  split at hc
  · assumption
  · cases hc
theorem inflate_le {s : List UInt8} {at_ most : Int} (h : (InfM.inflate s at_ most).2.2 = 0) : at_.toNat + (InfM.inflate s at_ most).2.1 ≤ s.length ∧ 0 ≤ at_ := by
  unfold InfM.inflate at h ⊢
  split at h
  · cases h
  · rename_i hc
    rw [if_neg hc]
    cases hi : InfM.inf most.toNat (sbits (s.drop at_.toNat)) with
    | error e =>
      dsimp only
      omega
    | ok x =>
      obtain ⟨out, p⟩ := x
      have := inf_le hi
      rw [sbits_length, List.length_drop] at this
      dsimp only
      omega
/-- How many heads there are with this first byte and a second one below k. -/
def cnt (a : Nat) : Nat → Nat
  | 0 => 0
  | k + 1 => cnt a k + (if head a k = true then 1 else 0)
end ZlM
namespace Go.Proofs.YtllegkmadljmaaaGreatDoor
open Go Vc BitsM SumM Go.Proofs

theorem and32 : ∀ b, b < 256 → ((b &&& 32 == 0) = (b / 32 % 2 == 0)) := by decide +kernel
theorem zand15 (a : Nat) (ha : a < 256) : IntKind.u8.wrap (((BitVec.ofInt 8 (a : Int) &&& BitVec.ofInt 8 15).toNat : Nat) : Int) = ((a % 16 : Nat) : Int) := by
  have := and_nat 8 a 15 (by omega) (by decide)
  rw [show ((15 : Nat) : Int) = 15 from rfl, show a &&& 15 = a % 16 from and_mask a 4] at this
  rw [this, wrap_u8 (by omega) (by omega)]
theorem zand32 (b : Nat) (hb : b < 256) : (IntKind.u8.wrap (((BitVec.ofInt 8 (b : Int) &&& BitVec.ofInt 8 32).toNat : Nat) : Int) == 0) = (b / 32 % 2 == 0) := by
  have := and_nat 8 b 32 (by omega) (by decide)
  rw [show ((32 : Nat) : Int) = 32 from rfl] at this
  have h2 : b &&& 32 < 256 := Nat.lt_of_le_of_lt Nat.and_le_left hb
  rw [this, wrap_u8 (by omega) (by omega), ← and32 b hb, Bool.eq_iff_iff]
  simp only [beq_iff_eq]; omega
theorem zshr4 (a : Nat) : Int.fdiv (a : Int) (2 ^ min (Int.toNat 4) 8) = ((a / 16 : Nat) : Int) := by
  rw [show (2 : Int) ^ min (Int.toNat 4) 8 = ((16 : Nat) : Int) from rfl, Int.fdiv_eq_ediv_of_nonneg _ (Int.natCast_nonneg _), ← Int.natCast_ediv]
/-- 'Head'. -/
theorem zhead_spec (a b : Nat) (ha : a < 256) (hb : b < 256) (w : World) :
    Calls Tryz.prog F_zlib_Head #[.int .u8 (a : Int), .int .u8 (b : Int)] w fun e w' => e = .returned (.bool (ZlM.head a b)) ∧ w' = w := by
  refine vc_zlib_Head_ok (R := fun v w' => v = .bool (ZlM.head a b) ∧ w' = w) ?_ (fun v w' h => ⟨by rw [h.1], h.2⟩)
  have e1 : Int.tmod (IntKind.i64.wrap (((BitVec.ofInt 64 (IntKind.i64.wrap (IntKind.i64.wrap (a : Int) * 2 ^ min (Int.toNat 8) 64)) ||| BitVec.ofInt 64 (IntKind.i64.wrap (b : Int))).toNat : Nat) : Int)) 31 = (((256 * a + b) % 31 : Nat) : Int) := by
    have hor : 2 ^ 8 * a ||| b = 2 ^ 8 * a + b := (Nat.two_pow_add_eq_or_of_lt hb _).symm
    rw [wrap_i64 (x := (a : Int)) (by omega) (by omega), show (a : Int) * 2 ^ min (Int.toNat 8) 64 = ((2 ^ 8 * a : Nat) : Int) by
      rw [show (2 : Int) ^ min (Int.toNat 8) 64 = ((2 ^ 8 : Nat) : Int) from rfl, ← Int.natCast_mul, Nat.mul_comm],
      wrap_i64 (x := ((2 ^ 8 * a : Nat) : Int)) (by omega) (by omega), wrap_i64 (x := (b : Int)) (by omega) (by omega), or_nat 64 _ _ (by omega) (by omega), hor, wrap_i64 (by omega) (by omega), Int.tmod_eq_emod_of_nonneg (by omega)]
    omega
  rw [vc_zlib_Head, zand15 a ha, zshr4, e1, zand32 b hb]
  unfold ZlM.head
  refine ⟨fun h1 => ⟨by decide, fun h2 => ⟨by decide, by decide, fun h3 => ?_, fun h3 => ?_⟩, fun h2 => ?_⟩, fun h1 => ?_⟩
  · have h1 : a % 16 = 8 := by have := eq_of_beq h1; omega
    have h2 := of_decide_eq_true h2
    have h3 : (256 * a + b) % 31 = 0 := by have := eq_of_beq h3; omega
    rw [h1, h3, decide_eq_true (show a / 16 ≤ 7 by omega)]
    exact ⟨rfl, rfl⟩
  · have h3 : ((256 * a + b) % 31 == 0) = false := by rw [Bool.eq_false_iff] at h3 ⊢; intro hh; have := eq_of_beq hh; exact h3 (by rw [this]; rfl)
    rw [h3]
    exact ⟨by simp, rfl⟩
  · have h2 := of_decide_eq_false h2
    rw [decide_eq_false (show ¬ a / 16 ≤ 7 by omega)]
    exact ⟨by simp, rfl⟩
  · have h1 : (a % 16 == 8) = false := by rw [Bool.eq_false_iff] at h1 ⊢; intro hh; have := eq_of_beq hh; exact h1 (by rw [this]; rfl)
    rw [h1]
    exact ⟨by simp, rfl⟩
/-- The reference's 'Head'. -/
theorem byt_getD (s : ByteArray) (i : Nat) : byt s i = (s.data.toList.getD i 0).toNat := by
  unfold byt; rw [List.getD_eq_getElem?_getD]
/-- 'Read'. -/
theorem zread_spec (s : ByteArray) (hs : s.size ≤ 100000000) (at_ most : Int) (w : World) :
    Calls Tryz.prog F_zlib_Read #[.string s, .int .i64 at_, .int .i64 most] w fun e w' => e = .returned (ans3 (ZlM.read s.data.toList at_ most)) ∧
      ((ZlM.read s.data.toList at_ most).2.2 = 0 → ((ZlM.read s.data.toList at_ most).1.length : Int) ≤ most) ∧ Fr (fun _ => False) w w' := by
  refine vc_zlib_Read_ok (R := fun v w' => v = ans3 (ZlM.read s.data.toList at_ most) ∧ ((ZlM.read s.data.toList at_ most).2.2 = 0 → ((ZlM.read s.data.toList at_ most).1.length : Int) ≤ most) ∧ Fr (fun _ => False) w w') ?_ (fun v w' h => ⟨by rw [h.1], h.2⟩)
  have hsl : s.data.toList.length = s.size := by simp
  obtain ⟨r, hr⟩ : ∃ r, ZlM.read s.data.toList at_ most = r := ⟨_, rfl⟩
  rw [hr]
  unfold ZlM.read at hr
  rw [hsl] at hr
  have bad : ∀ {e : Nat} {w' : World}, e ≠ 0 → ([], 0, e) = r → Fr (fun _ => False) w w' → Value.tuple #[.string ⟨#[]⟩, .int .i64 0, .int .i64 (e : Int)] = ans3 r ∧ (r.2.2 = 0 → (r.1.length : Int) ≤ most) ∧ Fr (fun _ => False) w w' := fun he hh hf => by
    subst hh
    exact ⟨rfl, fun h => absurd h he, hf⟩
  refine ⟨fun h1 => ?_, fun h1 => ⟨fun h2 => ?_, fun h2 => ⟨fun h3 => ?_, fun h3 => ⟨fun h4 => ?_, fun h4 => ?_⟩⟩⟩⟩
  · rw [if_pos (.inl (of_decide_eq_true h1))] at hr; exact bad (by decide) hr (.refl _ _)
  · rw [if_pos (.inr (.inl (of_decide_eq_true h2)))] at hr; exact bad (by decide) hr (.refl _ _)
  · rw [if_pos (.inr (.inr (.inl (of_decide_eq_true h3))))] at hr; exact bad (by decide) hr (.refl _ _)
  · rw [if_pos (.inr (.inr (.inr (of_decide_eq_true h4))))] at hr; exact bad (by decide) hr (.refl _ _)
  have h1 := of_decide_eq_false h1
  have h2 := of_decide_eq_false h2
  have h3 := of_decide_eq_false h3
  have h4 := of_decide_eq_false h4
  obtain ⟨off, rfl⟩ : ∃ off : Nat, at_ = (off : Int) := ⟨at_.toNat, by omega⟩
  rw [if_neg (by omega), Int.toNat_natCast] at hr
  have e1 : IntKind.i64.wrap ((s.size : Int) - (off : Int)) = ((s.size - off : Nat) : Int) := by rw [wrap_i64 (by omega) (by omega)]; omega
  have e2 : IntKind.i64.wrap ((off : Int) + 1) = ((off + 1 : Nat) : Int) := by rw [wrap_i64 (by omega) (by omega)]; omega
  have e3 : IntKind.i64.wrap ((off : Int) + 2) = ((off + 2 : Nat) : Int) := by rw [wrap_i64 (by omega) (by omega)]; omega
  rw [e1, e2, e3]
  refine ⟨fun hlt => ?_, fun hge w1 d1 => ?_⟩
  · have hlt := of_decide_eq_true hlt
    rw [if_pos (by omega)] at hr; exact bad (by decide) hr (.refl _ _)
  have hge := of_decide_eq_false hge
  rw [if_neg (by omega), ← byt_getD, ← byt_getD] at hr
  refine ⟨fun w' => True, trivial, ⟨by omega, by omega⟩, ⟨by omega, by omega⟩, ?_⟩
  rw [byteAt_nat, byteAt_nat]
  refine (zhead_spec _ _ (byt_lt s off) (byt_lt s (off + 1)) w1).mono ?_
  rintro e w4 ⟨rfl, hw⟩
  replace hw := hw.symm
  subst hw
  generalize ZlM.head (byt s off) (byt s (off + 1)) = hd at hr
  refine ⟨_, rfl, trivial, fun hno => ?_, fun hyes => ?_⟩
  · have hno : hd = false := by simpa using hno
    rw [if_pos hno] at hr; exact bad (by decide) hr (.drew _ d1)
  have hyes : hd = true := by simpa using hyes
  rw [if_neg (by rw [hyes]; decide)] at hr
  rw [show ((off + 2 : Nat) : Int) = (off : Int) + 2 by omega]
  refine (infl_spec s (by omega) ((off : Int) + 2) most w1).mono ?_
  have hle := ZlM.inflate_le (s := s.data.toList) (at_ := (off : Int) + 2) (most := most)
  rw [hsl] at hle
  generalize InfM.inflate s.data.toList ((off : Int) + 2) most = q at hr hle
  rintro e w7 ⟨rfl, hlen, hf7⟩
  have hf7' : Fr (fun _ => False) w w7 := (Fr.drew _ d1).trans' hf7
  refine ⟨_, _, _, rfl, fun hne => ?_, fun heq => ?_⟩
  · have hne : q.2.2 ≠ 0 := by simpa using hne
    rw [if_pos hne] at hr
    exact bad hne hr hf7'
  have heq : q.2.2 = 0 := by simpa using heq
  rw [if_neg (by omega)] at hr
  have hle := hle heq
  have e4 : IntKind.i64.wrap ((off : Int) + 2 + (q.2.1 : Int)) = ((off + 2 + q.2.1 : Nat) : Int) := by rw [wrap_i64 (by omega) (by omega)]; omega
  have e5 : IntKind.i64.wrap ((s.size : Int) - ((off + 2 + q.2.1 : Nat) : Int)) = ((s.size - (off + 2 + q.2.1) : Nat) : Int) := by rw [wrap_i64 (by omega) (by omega)]; omega
  have e6 : IntKind.i64.wrap (((off + 2 + q.2.1 : Nat) : Int) + 4) = ((off + 2 + q.2.1 + 4 : Nat) : Int) := by rw [wrap_i64 (by omega) (by omega)]; omega
  rw [e4, e5, e6]
  refine ⟨fun hlt => ?_, fun hge => ?_⟩
  · have hlt := of_decide_eq_true hlt
    rw [if_pos (by omega)] at hr; exact bad (by decide) hr hf7'
  have hge := of_decide_eq_false hge
  rw [if_neg (by omega)] at hr
  refine ⟨⟨by omega, by omega, by omega⟩, ?_⟩
  rw [Int.toNat_natCast, Int.toNat_natCast]
  have hx : (s.extract (off + 2 + q.2.1) (off + 2 + q.2.1 + 4)).data.toList = (s.data.toList.drop (off + 2 + q.2.1)).take 4 := by
    rw [extract_list, Nat.add_sub_cancel_left]
  have hxl : ((s.data.toList.drop (off + 2 + q.2.1)).take 4).length = 4 := by rw [List.length_take, List.length_drop]; omega
  refine (frombig_spec (s.extract (off + 2 + q.2.1) (off + 2 + q.2.1 + 4)) (by simp; omega) w7).mono ?_
  rw [hx]
  rintro e w12 ⟨rfl, hw⟩
  replace hw := hw.symm
  subst hw
  have hq1 : ((⟨q.1.toArray⟩ : ByteArray)).data.toList = q.1 := by simp
  have hn8 := num8_lt 4 _ hxl
  have hb8 := bigB_num8 4 _ hxl
  have had := adler_lt q.1
  have hmost := hlen heq
  refine ⟨_, rfl, (adler_spec ⟨q.1.toArray⟩ (by simp [ByteArray.size]; omega) w7).mono ?_⟩
  rw [hq1]
  rintro e w15 ⟨rfl, hf15⟩
  rw [wrap_u32 (by omega) (by omega)]
  refine ⟨_, rfl, fun hne => ?_, fun heq2 => ?_⟩
  · have hne : num8 ((s.data.toList.drop (off + 2 + q.2.1)).take 4) ≠ adler q.1 := fun hh => by rw [hh] at hne; simp at hne
    rw [if_pos (fun hh => hne (by rw [hh]; exact num8_bigB 4 _ (by omega)))] at hr
    exact bad (by decide) hr (hf7'.trans' hf15)
  · have heq2 : num8 ((s.data.toList.drop (off + 2 + q.2.1)).take 4) = adler q.1 := Int.ofNat.inj (by simpa using heq2)
    rw [if_neg (fun hh => hh (by rw [← heq2]; exact hb8.symm))] at hr
    subst hr
    have e7 : IntKind.i64.wrap ((q.2.1 : Int) + 6) = ((q.2.1 + 6 : Nat) : Int) := by rw [wrap_i64 (by omega) (by omega)]; omega
    rw [e7]
    exact ⟨rfl, fun _ => hmost, hf7'.trans' hf15⟩
end Go.Proofs.YtllegkmadljmaaaGreatDoor

/- Formulas of 5 Go functions of this seat (written by a program of the author's, vcgen.py), and that each is enough for the call. No condition. -/
set_option linter.unusedVariables false
namespace Go.Proofs.YtllegkmadljmaaaGreatDoor
open Go Vc Go.Proofs
set_option maxRecDepth 100000
def vc_bitin_Writer_Bits (x0 : Nat) (x1 : Int) (x2 : Int) (w : World) (R : Value → World → Prop) : Prop :=
 (((decide (x2 < 0) = true →
 R (Value.tuple (Array.mk [])) w)) ∧
 (decide (x2 < 0) = false →
 (((decide (x2 > 32) = true →
 R (Value.tuple (Array.mk [])) w)) ∧
 (decide (x2 > 32) = false →
 ∀ w1 : World,
 (Drew w w1 →
 ∃ n2 : Int, (World.cell? w1 (Addr.mk x0 1 none) = some (Value.int .u64 n2) ∧
 (0 ≤ x2 ∧
 ∃ n3 : Int, (World.cell? w1 (Addr.mk x0 2 none) = some (Value.int .i64 n3) ∧
 (0 ≤ n3 ∧
 (Wr w1 (Addr.mk x0 1 none) ∧
 ∀ w4 : World,
 (w4 = World.setCell w1 (Addr.mk x0 1 none) (Value.int .u64 (IntKind.wrap .u64 (↑(BitVec.toNat (BitVec.ofInt 64 n2 ||| BitVec.ofInt 64 (IntKind.wrap .u64 (IntKind.wrap .u64 (↑(BitVec.toNat (BitVec.ofInt 64 (IntKind.wrap .u64 x1) &&& BitVec.ofInt 64 (IntKind.wrap .u64 (IntKind.wrap .u64 (1 * 2 ^ min (Int.toNat x2) 64) - 1)))) : Int) * 2 ^ min (Int.toNat n3) 64)))) : Int))) →
 ∃ n5 : Int, (World.cell? w4 (Addr.mk x0 2 none) = some (Value.int .i64 n5) ∧
 (Wr w4 (Addr.mk x0 2 none) ∧
 ∀ w6 : World,
 (w6 = World.setCell w4 (Addr.mk x0 2 none) (Value.int .i64 (IntKind.wrap .i64 (n5 + x2))) →
 ∃ I7 : World → Prop, ∃ I8 : World → Nat, (I7 w6 ∧
 ∀ w9 : World,
 (I7 w9 →
 ∃ n10 : Int, (World.cell? w9 (Addr.mk x0 2 none) = some (Value.int .i64 n10) ∧
 (((decide (n10 ≥ 8) = true →
 ∀ w11 : World,
 (Drew w9 w11 →
 ∃ I12 : World → Prop, (I12 w11 ∧
 ∃ l13 : Sl, ((∀ w14 : World,
 (I12 w14 →
 World.cell? w14 (Addr.mk x0 0 none) = some (Value.slice l13.1 l13.2 l13.3))) ∧
 ∃ n15 : Int, ((∀ w16 : World,
 (I12 w16 →
 World.cell? w16 (Addr.mk x0 1 none) = some (Value.int .u64 n15))) ∧
 ∀ w17 : World,
 (w17 = World.alloc w11 (Obj.cells (Array.mk [Value.int .u8 (IntKind.wrap .u8 n15)]) 5) →
 (I12 w17 ∧
 ∃ w18 : World, ∃ l19 : Sl, (Sem.run Tryz.prog (Builtin.append_ (Array.mk [108, 108]) 108 (Array.mk [Value.slice l13.1 l13.2 l13.3, Value.slice (some (Addr.mk (Array.size (World.heap w11)) 0 none)) 1 1])) w17 = Result.ok (Value.slice l19.1 l19.2 l19.3) w18 ∧
 (I12 w18 ∧
 (Wr w18 (Addr.mk x0 0 none) ∧
 ∀ w20 : World,
 (w20 = World.setCell w18 (Addr.mk x0 0 none) (Value.slice l19.1 l19.2 l19.3) →
 ∃ n21 : Int, (World.cell? w20 (Addr.mk x0 1 none) = some (Value.int .u64 n21) ∧
 ((0 : Int) ≤ (8 : Int) ∧
 (Wr w20 (Addr.mk x0 1 none) ∧
 ∀ w22 : World,
 (w22 = World.setCell w20 (Addr.mk x0 1 none) (Value.int .u64 (Int.fdiv n21 (2 ^ min (Int.toNat 8) 64))) →
 ∃ n23 : Int, (World.cell? w22 (Addr.mk x0 2 none) = some (Value.int .i64 n23) ∧
 (Wr w22 (Addr.mk x0 2 none) ∧
 ∀ w24 : World,
 (w24 = World.setCell w22 (Addr.mk x0 2 none) (Value.int .i64 (IntKind.wrap .i64 (n23 - 8))) →
 (I7 w24 ∧
 I8 w24 < I8 w9)))))))))))))))))))) ∧
 (decide (n10 ≥ 8) = false →
 R (Value.tuple (Array.mk [])) w9)))))))))))))))))))
theorem vc_bitin_Writer_Bits_ok {x0 : Nat} {x1 : Int} {x2 : Int} {w : World} {R : Value → World → Prop} {R' : Ending → World → Prop} (h : vc_bitin_Writer_Bits x0 x1 x2 w R) (hR : ∀ v w', R v w' → R' (.returned v) w') :
    Calls Tryz.prog 105 #[.pointer (some ⟨x0, 0, none⟩), .int .u32 x1, .int .i64 x2] w R' :=
  calls_of_body (vs := [(.pointer (some ⟨x0, 0, none⟩), true), (.int .u32 x1, false), (.int .i64 x2, false)]) (ty := ty) (ann := ⟨[], [(3, [])], [(1, .tail 18), (4, .held [(0, true), (1, true), (2, true), (3, true), (4, true), (5, true), (6, true), (7, true), (8, true), (9, true), (10, false), (11, false), (12, true), (13, true), (14, false)])], []⟩) (c := Tryz.f105.body.getD .skip) (by kernel_rfl) Tryz.func105 (by kernel_rfl) (by kernel_rfl) (Eq.mp (by kernel_rfl) h) hR
def vc_bitin_Writer_Code (x0 : Nat) (x1 : Int) (x2 : Int) (w : World) (R : Value → World → Prop) : Prop :=
 (((decide (x2 < 1) = true →
 R (Value.tuple (Array.mk [])) w)) ∧
 (decide (x2 < 1) = false →
 (((decide (x2 > 32) = true →
 R (Value.tuple (Array.mk [])) w)) ∧
 (decide (x2 > 32) = false →
 ∃ I1 : Int → World → Prop, ∃ I2 : Int → World → Nat, (I1 (IntKind.wrap .i64 (x2 - 1)) w ∧
 ∀ n3 : Int,
 ∀ w4 : World,
 (I1 n3 w4 →
 (((decide (n3 ≥ 0) = true →
 (0 ≤ n3 ∧
 Calls Tryz.prog (105 : Nat) (Array.mk [Value.pointer (some (Addr.mk x0 0 none)), Value.int .u32 (Int.fdiv x1 (2 ^ min (Int.toNat n3) 32)), Value.int .i64 1]) (w4) (fun e5 w6 =>
 (e5 = Ending.returned (Value.tuple (Array.mk [])) ∧
 (I1 (IntKind.wrap .i64 (n3 - 1)) w6 ∧
 I2 (IntKind.wrap .i64 (n3 - 1)) w6 < I2 n3 w4)))))) ∧
 (decide (n3 ≥ 0) = false →
 R (Value.tuple (Array.mk [])) w4))))))))
theorem vc_bitin_Writer_Code_ok {x0 : Nat} {x1 : Int} {x2 : Int} {w : World} {R : Value → World → Prop} {R' : Ending → World → Prop} (h : vc_bitin_Writer_Code x0 x1 x2 w R) (hR : ∀ v w', R v w' → R' (.returned v) w') :
    Calls Tryz.prog 107 #[.pointer (some ⟨x0, 0, none⟩), .int .u32 x1, .int .i64 x2] w R' :=
  calls_of_body (vs := [(.pointer (some ⟨x0, 0, none⟩), true), (.int .u32 x1, false), (.int .i64 x2, false)]) (ty := ty) (ann := ⟨[], [(2, [(6, .int .i64)])], [], []⟩) (c := Tryz.f107.body.getD .skip) (by kernel_rfl) Tryz.func107 (by kernel_rfl) (by kernel_rfl) (Eq.mp (by kernel_rfl) h) hR
def vc_bitin_Writer_Text (x0 : Nat) (w : World) (R : Value → World → Prop) : Prop :=
 ∃ n1 : Int, (World.cell? w (Addr.mk x0 2 none) = some (Value.int .i64 n1) ∧
 (((decide (n1 > 0) = true →
 ∀ w2 : World,
 (Drew w w2 →
 ∃ I3 : World → Prop, (I3 w2 ∧
 ∃ l4 : Sl, ((∀ w5 : World,
 (I3 w5 →
 World.cell? w5 (Addr.mk x0 0 none) = some (Value.slice l4.1 l4.2 l4.3))) ∧
 ∃ n6 : Int, ((∀ w7 : World,
 (I3 w7 →
 World.cell? w7 (Addr.mk x0 1 none) = some (Value.int .u64 n6))) ∧
 ∃ s8 : ByteArray, ((∀ w9 : World,
 (I3 w9 →
 Sem.run Tryz.prog (convert 108 9 (Value.slice l4.1 l4.2 l4.3)) w9 = Result.ok (Value.string s8) w9)) ∧
 ∀ w10 : World,
 (w10 = World.alloc w2 (Obj.cells (Array.mk [Value.int .u8 (IntKind.wrap .u8 n6)]) 5) →
 (I3 w10 ∧
 ∃ w11 : World, ∃ s12 : ByteArray, (Sem.run Tryz.prog (convert 108 9 (Value.slice (some (Addr.mk (Array.size (World.heap w2)) 0 none)) 1 1)) w10 = Result.ok (Value.string s12) w11 ∧
 (I3 w11 ∧
 (ByteArray.size s8 + ByteArray.size s12 ≤ 9223372036854775807 ∧
 R (Value.string (s8 ++ s12)) w11)))))))))))) ∧
 (decide (n1 > 0) = false →
 ∃ l13 : Sl, (World.cell? w (Addr.mk x0 0 none) = some (Value.slice l13.1 l13.2 l13.3) ∧
 ∃ w14 : World, ∃ s15 : ByteArray, (Sem.run Tryz.prog (convert 108 9 (Value.slice l13.1 l13.2 l13.3)) w = Result.ok (Value.string s15) w14 ∧
 R (Value.string s15) w14)))))
theorem vc_bitin_Writer_Text_ok {x0 : Nat} {w : World} {R : Value → World → Prop} {R' : Ending → World → Prop} (h : vc_bitin_Writer_Text x0 w R) (hR : ∀ v w', R v w' → R' (.returned v) w') :
    Calls Tryz.prog 111 #[.pointer (some ⟨x0, 0, none⟩)] w R' :=
  calls_of_body (vs := [(.pointer (some ⟨x0, 0, none⟩), true)]) (ty := ty) (ann := ⟨[], [], [(2, .held [(0, true), (1, true), (2, true), (3, true), (5, true), (6, true), (7, true), (8, true), (9, true), (4, true), (10, false), (11, false), (12, true), (13, true)])], []⟩) (c := Tryz.f111.body.getD .skip) (by kernel_rfl) Tryz.func111 (by kernel_rfl) (by kernel_rfl) (Eq.mp (by kernel_rfl) h) hR
def vc_bitin_Writer_Align (x0 : Nat) (w : World) (R : Value → World → Prop) : Prop :=
 ∃ n1 : Int, (World.cell? w (Addr.mk x0 2 none) = some (Value.int .i64 n1) ∧
 (((decide (n1 > 0) = true →
 ∃ n2 : Int, (World.cell? w (Addr.mk x0 2 none) = some (Value.int .i64 n2) ∧
 Calls Tryz.prog (105 : Nat) (Array.mk [Value.pointer (some (Addr.mk x0 0 none)), Value.int .u32 0, Value.int .i64 (IntKind.wrap .i64 (8 - n2))]) (w) (fun e3 w4 =>
 (e3 = Ending.returned (Value.tuple (Array.mk [])) ∧
 R (Value.tuple (Array.mk [])) w4))))) ∧
 (decide (n1 > 0) = false →
 R (Value.tuple (Array.mk [])) w)))
theorem vc_bitin_Writer_Align_ok {x0 : Nat} {w : World} {R : Value → World → Prop} {R' : Ending → World → Prop} (h : vc_bitin_Writer_Align x0 w R) (hR : ∀ v w', R v w' → R' (.returned v) w') :
    Calls Tryz.prog 176 #[.pointer (some ⟨x0, 0, none⟩)] w R' :=
  calls_of_body (vs := [(.pointer (some ⟨x0, 0, none⟩), true)]) (ty := ty) (ann := ⟨[], [], [], []⟩) (c := Tryz.f176.body.getD .skip) (by kernel_rfl) Tryz.func176 (by kernel_rfl) (by kernel_rfl) (Eq.mp (by kernel_rfl) h) hR
def vc_bitin_Writer_Bytes (x0 : Nat) (x1 : ByteArray) (w : World) (R : Value → World → Prop) : Prop :=
 Calls Tryz.prog (176 : Nat) (Array.mk [Value.pointer (some (Addr.mk x0 0 none))]) (w) (fun e1 w2 =>
 (e1 = Ending.returned (Value.tuple (Array.mk [])) ∧
 ∃ l3 : Sl, (World.cell? w2 (Addr.mk x0 0 none) = some (Value.slice l3.1 l3.2 l3.3) ∧
 ∃ w4 : World, ∃ l5 : Sl, (Sem.run Tryz.prog (Builtin.append_ (Array.mk [108, 9]) 108 (Array.mk [Value.slice l3.1 l3.2 l3.3, Value.string x1])) w2 = Result.ok (Value.slice l5.1 l5.2 l5.3) w4 ∧
 (Wr w4 (Addr.mk x0 0 none) ∧
 ∀ w6 : World,
 (w6 = World.setCell w4 (Addr.mk x0 0 none) (Value.slice l5.1 l5.2 l5.3) →
 R (Value.tuple (Array.mk [])) w6))))))
theorem vc_bitin_Writer_Bytes_ok {x0 : Nat} {x1 : ByteArray} {w : World} {R : Value → World → Prop} {R' : Ending → World → Prop} (h : vc_bitin_Writer_Bytes x0 x1 w R) (hR : ∀ v w', R v w' → R' (.returned v) w') :
    Calls Tryz.prog 148 #[.pointer (some ⟨x0, 0, none⟩), .string x1] w R' :=
  calls_of_body (vs := [(.pointer (some ⟨x0, 0, none⟩), true), (.string x1, false)]) (ty := ty) (ann := ⟨[], [], [], []⟩) (c := Tryz.f148.body.getD .skip) (by kernel_rfl) Tryz.func148 (by kernel_rfl) (by kernel_rfl) (Eq.mp (by kernel_rfl) h) hR
end Go.Proofs.YtllegkmadljmaaaGreatDoor

/- What each method of the bit writer does, for every writer that is in order. Conditions: there are fewer than 2 to the 40th bits; a code's bits are a number of 32 bits. -/
set_option linter.unusedVariables false
namespace Go.Proofs.YtllegkmadljmaaaGreatDoor
open Go Vc BitsM Go.Proofs

theorem elU8 : El Tryz.prog T_S_uint8 T_uint8 (.int .u8 0) 1 := ⟨by kernel_rfl, by kernel_rfl, rfl⟩
/-- A writer that has l, of which m bytes are out. -/
structure WrAt (w : World) (b : Nat) (sl : Sl) (l : List Bool) (m : Nat) : Prop where
  lo : 8 * m ≤ l.length
  blk : w.heap[b]? = some (.cells #[.slice sl.a sl.len sl.cap, .int .u64 ((num (l.drop (8 * m)) : Nat) : Int), .int .i64 ((l.length - 8 * m : Nat) : Int)] T_bitin_Writer (0, 0))
  own : Vc.Own w (b + 1) T_uint8 sl (byteV (bytesOf l m))
/-- A writer in order. -/
def Wrt (w : World) (b : Nat) (sl : Sl) (l : List Bool) : Prop := WrAt w b sl l (l.length / 8) ∧ l.length ≤ 1099511627776
/-- The blocks that a writer's methods write. -/
def WX (b : Nat) (sl : Sl) (k : Nat) : Prop := k = b ∨ At sl k
section
variable {w w2 : World} {b : Nat} {sl : Sl} {l : List Bool} {m : Nat}
theorem WrAt.c0 (h : WrAt w b sl l m) : w.cell? ⟨b, 0, none⟩ = some (.slice sl.a sl.len sl.cap) := by rw [cell_blk h.blk]; rfl
theorem WrAt.c1 (h : WrAt w b sl l m) : w.cell? ⟨b, 1, none⟩ = some (.int .u64 ((num (l.drop (8 * m)) : Nat) : Int)) := by rw [cell_blk h.blk]; rfl
theorem WrAt.c2 (h : WrAt w b sl l m) : w.cell? ⟨b, 2, none⟩ = some (.int .i64 ((l.length - 8 * m : Nat) : Int)) := by rw [cell_blk h.blk]; rfl
theorem WrAt.keep (h : WrAt w b sl l m) {X : Nat → Prop} (hf : Fr X w w2) (hx : ¬ X b) (hs : ∀ y, sl.a = some y → ¬ X y.block) : WrAt w2 b sl l m := ⟨h.lo, hf.keep h.blk hx, h.own.keep hf hs⟩
theorem WrAt.drew (h : WrAt w b sl l m) (d : Drew w w2) : WrAt w2 b sl l m := h.keep (.drew (fun _ => False) d) (by simp) (by simp)
theorem Wrt.keep (h : Wrt w b sl l) {X : Nat → Prop} (hf : Fr X w w2) (hx : ¬ X b) (hs : ∀ y, sl.a = some y → ¬ X y.block) : Wrt w2 b sl l := ⟨h.1.keep hf hx hs, h.2⟩
theorem Wrt.lt (h : Wrt w b sl l) : b < w.heap.size := lt_blk h.1.blk
/-- A writer that has nothing. -/
theorem Wrt.zero {w : World} {b : Nat} (h : w.heap[b]? = some (.cells #[.slice none 0 0, .int .u64 0, .int .i64 0] T_bitin_Writer)) : Wrt w b ⟨none, 0, 0⟩ [] :=
  ⟨⟨by simp, h, .nil _ _ _⟩, by simp⟩
theorem num_or (l : List Bool) (y : Nat) : num l ||| (y * 2 ^ l.length) = num l + 2 ^ l.length * y := by
  rw [Nat.mul_comm y, Nat.or_comm, ← Nat.two_pow_add_eq_or_of_lt (num_lt l), Nat.add_comm]
end

/-- The lowest n bits of x are put. -/
theorem wbits_spec {w : World} {b : Nat} {sl : Sl} {l : List Bool} (h : Wrt w b sl l) {x n : Nat} (hx : x < 4294967296) (hn : n ≤ 32) (hl : l.length + n ≤ 1099511627776) :
    Calls Tryz.prog F_bitin_Writer_Bits #[.pointer (some ⟨b, 0, none⟩), .int .u32 x, .int .i64 n] w fun e w' =>
      e = .returned (.tuple #[]) ∧ ∃ sl', Wrt w' b sl' (l ++ lowB n x) ∧ Fr (WX b sl) w w' ∧ Since w sl sl' := by
  refine vc_bitin_Writer_Bits_ok (R := fun v w' => v = .tuple #[] ∧ ∃ sl', Wrt w' b sl' (l ++ lowB n x) ∧ Fr (WX b sl) w w' ∧ Since w sl sl') ?_ (fun v w' h => ⟨by rw [h.1], h.2⟩)
  refine ⟨fun hlt => absurd (of_decide_eq_true hlt) (by omega), fun _ => ⟨fun hgt => absurd (of_decide_eq_true hgt) (by omega), fun _ => ?_⟩⟩
  intro w1 d1
  obtain ⟨h, _⟩ := h
  have h1 := h.drew d1
  have hlen : (l.drop (8 * (l.length / 8))).length = l.length - 8 * (l.length / 8) := List.length_drop
  have hnum := num_lt (l.drop (8 * (l.length / 8)))
  rw [hlen] at hnum
  have hp1 : 2 ^ (l.length - 8 * (l.length / 8)) ≤ 2 ^ 7 := Nat.pow_le_pow_right (by decide) (by omega)
  refine ⟨_, h1.c1, by omega, _, h1.c2, by omega, wr_blk h1.blk (by simp), ?_⟩
  have hhold : IntKind.u64.wrap (((BitVec.ofInt 64 ((num (l.drop (8 * (l.length / 8))) : Nat) : Int) ||| BitVec.ofInt 64 (IntKind.u64.wrap (IntKind.u64.wrap (((BitVec.ofInt 64 (IntKind.u64.wrap (x : Int)) &&& BitVec.ofInt 64 (IntKind.u64.wrap (IntKind.u64.wrap (1 * 2 ^ min ((n : Int)).toNat 64) - 1))).toNat : Nat) : Int) * 2 ^ min ((l.length - 8 * (l.length / 8) : Nat) : Int).toNat 64))).toNat : Nat) : Int) = ((num ((l ++ lowB n x).drop (8 * (l.length / 8))) : Nat) : Int) := by
    have hm : min ((n : Int)).toNat 64 = n := by omega
    have hm2 : min ((l.length - 8 * (l.length / 8) : Nat) : Int).toNat 64 = l.length - 8 * (l.length / 8) := by omega
    have hp : 2 ^ n ≤ 2 ^ 32 := Nat.pow_le_pow_right (by decide) hn
    have h1 := Nat.two_pow_pos n
    have hc : (2 : Int) ^ n = ((2 ^ n : Nat) : Int) := by push_cast; rfl
    have hmask : IntKind.u64.wrap (IntKind.u64.wrap (1 * 2 ^ min ((n : Int)).toNat 64) - 1) = ((2 ^ n - 1 : Nat) : Int) := by
      rw [hm, Int.one_mul, hc, wrap_u64 (x := ((2 ^ n : Nat) : Int)) (by omega) (by omega), wrap_u64 (by omega) (by omega)]
      omega
    have hand : x &&& (2 ^ n - 1) = x % 2 ^ n := Nat.and_two_pow_sub_one_eq_mod x n
    have hxm : x % 2 ^ n < 2 ^ n := Nat.mod_lt _ h1
    rw [hmask, wrap_u64 (x := (x : Int)) (by omega) (by omega), and_nat 64 _ _ (by omega) (by omega), hand, hm2]
    have hc2 : (2 : Int) ^ (l.length - 8 * (l.length / 8)) = ((2 ^ (l.length - 8 * (l.length / 8)) : Nat) : Int) := by push_cast; rfl
    have hmul : x % 2 ^ n * 2 ^ (l.length - 8 * (l.length / 8)) ≤ 2 ^ 32 * 2 ^ 7 := Nat.mul_le_mul (by omega) hp1
    rw [wrap_u64 (x := ((x % 2 ^ n : Nat) : Int)) (by omega) (by omega), hc2, ← Int.natCast_mul, wrap_u64 (x := ((x % 2 ^ n * 2 ^ (l.length - 8 * (l.length / 8)) : Nat) : Int)) (by omega) (by omega)]
    rw [or_nat 64 _ _ (by omega) (by omega)]
    have hor := num_or (l.drop (8 * (l.length / 8))) (x % 2 ^ n)
    rw [hlen] at hor
    rw [hor, List.drop_append_of_le_length (by omega), num_append, num_lowB, hlen]
    have : 2 ^ (l.length - 8 * (l.length / 8)) * (x % 2 ^ n) ≤ 2 ^ 32 * 2 ^ 7 := by rw [Nat.mul_comm]; exact hmul
    exact wrap_u64 (by omega) (by omega)
  rw [hhold]
  rintro w4 rfl
  have b1 := set_blk h1.blk 1 (.int .u64 ((num ((l ++ lowB n x).drop (8 * (l.length / 8))) : Nat) : Int))
  refine ⟨((l.length - 8 * (l.length / 8) : Nat) : Int), by rw [cell_blk b1]; rfl, wr_blk b1 (by simp), ?_⟩
  have e2 : IntKind.i64.wrap (((l.length - 8 * (l.length / 8) : Nat) : Int) + (n : Int)) = (((l ++ lowB n x).length - 8 * (l.length / 8) : Nat) : Int) := by
    rw [List.length_append, lowB_length, wrap_i64 (by omega) (by omega)]; omega
  rw [e2]
  rintro w6 rfl
  have b2 := set_blk b1 2 (.int .i64 (((l ++ lowB n x).length - 8 * (l.length / 8) : Nat) : Int))
  have hLl : (l ++ lowB n x).length = l.length + n := by rw [List.length_append, lowB_length]
  have hbo : bytesOf (l ++ lowB n x) (l.length / 8) = bytesOf l (l.length / 8) := bytesOf_append _ _ _ (by omega)
  generalize l ++ lowB n x = L at b1 b2 hLl hbo ⊢
  have hfr : Fr (· = b) w _ := ((Fr.drew (· = b) d1).trans' (.set (· = b) _ (a := ⟨b, 1, none⟩) (.int .u64 ((num (L.drop (8 * (l.length / 8))) : Nat) : Int)) rfl)).trans' (.set (· = b) _ (a := ⟨b, 2, none⟩) (.int .i64 ((L.length - 8 * (l.length / 8) : Nat) : Int)) rfl)
  refine ⟨fun w9 => ∃ sl' m', WrAt w9 b sl' L m' ∧ L.length < 8 * m' + 64 ∧ l.length / 8 ≤ m' ∧ Fr (WX b sl) w w9 ∧ Since w sl sl', fun w9 => match w9.cell? ⟨b, 2, none⟩ with | some (.int _ n) => n.toNat | _ => 0, ⟨sl, l.length / 8, ⟨by omega, b2, ?_⟩, by omega, Nat.le_refl _, hfr.mono (fun _ _ h => .inl h), .refl _ _⟩, ?_⟩
  · rw [hbo]
    exact h.own.keep hfr (fun y hy => by have := (h.own.blk hy).1; omega)
  rintro w9 ⟨sl', m', h9, hhi, hmm, hf9, hs9⟩
  refine ⟨_, h9.c2, fun hge => ?_, fun hlt => ?_⟩
  · have hge := of_decide_eq_true hge
    have hge' : 8 * m' + 8 ≤ L.length := by omega
    intro w11 d11
    have h11 := h9.drew d11
    have hf11 : Fr (WX b sl) w w11 := hf9.trans' (.drew _ d11)
    refine ⟨fun w => w.heap[b]? = w11.heap[b]?, rfl, sl', fun w hw => by rw [cell_blk (hw.trans h11.blk)]; rfl, _, fun w hw => by rw [cell_blk (hw.trans h11.blk)]; rfl, ?_⟩
    intro w17 hw17
    have hne : b < w11.heap.size := lt_blk h11.blk
    have hbyte : IntKind.u8.wrap ((num (L.drop (8 * m')) : Nat) : Int) = (((BitsM.byteOf L m').toNat : Nat) : Int) := by
      rw [wrap_u8_mod, byteOf_nat, num_take]; rfl
    rw [hbyte] at hw17
    have hbl : (byteV (bytesOf L m')).length = m' := by rw [List.length_map, bytesOf_length]
    refine ⟨by rw [hw17]; exact alloc_old _ _ hne, ?_⟩
    obtain ⟨w18, l19, hr, ho18, hf18, hs18⟩ := append_one' elU8 h11.own (v := .int .u8 (((BitsM.byteOf L m').toNat : Nat) : Int)) rfl (by rw [hbl]; unfold maxLen; omega) (by rw [hbl]; omega) hne hw17
    have hb18 : w18.heap[b]? = w11.heap[b]? := hf18.blk b hne (fun ⟨y, hy, e⟩ => by have := (h11.own.blk hy).1; omega)
    have k18 := hb18.trans h11.blk
    refine ⟨w18, l19, hr, hb18, wr_blk k18 (by simp), ?_⟩
    rintro w20 rfl
    have c1 := set_blk k18 0 (.slice l19.a l19.len l19.cap)
    refine ⟨((num (L.drop (8 * m')) : Nat) : Int), by rw [cell_blk c1]; rfl, by decide, wr_blk c1 (by simp), ?_⟩
    have e3 : Int.fdiv ((num (L.drop (8 * m')) : Nat) : Int) (2 ^ min (Int.toNat 8) 64) = ((num (L.drop (8 * (m' + 1))) : Nat) : Int) := by
      have hp : (2 : Int) ^ min (Int.toNat 8) 64 = ((2 ^ 8 : Nat) : Int) := rfl
      rw [hp, show 8 * (m' + 1) = 8 * m' + 8 by omega, ← List.drop_drop, num_drop (L.drop (8 * m')), Int.fdiv_eq_ediv_of_nonneg _ (Int.natCast_nonneg _), ← Int.natCast_ediv]
    rw [e3]
    rintro w22 rfl
    have c2 := set_blk c1 1 (.int .u64 ((num (L.drop (8 * (m' + 1))) : Nat) : Int))
    refine ⟨((L.length - 8 * m' : Nat) : Int), by rw [cell_blk c2]; rfl, wr_blk c2 (by simp), ?_⟩
    have e4 : IntKind.i64.wrap (((L.length - 8 * m' : Nat) : Int) - 8) = ((L.length - 8 * (m' + 1) : Nat) : Int) := by rw [wrap_i64 (by omega) (by omega)]; omega
    rw [e4]
    rintro w24 rfl
    have c3 := set_blk c2 2 (.int .i64 ((L.length - 8 * (m' + 1) : Nat) : Int))
    have hf24 : Fr (· = b) w18 _ := ((Fr.set (· = b) _ (a := ⟨b, 0, none⟩) (.slice l19.a l19.len l19.cap) rfl).trans' (.set (· = b) _ (a := ⟨b, 1, none⟩) (.int .u64 ((num (L.drop (8 * (m' + 1))) : Nat) : Int)) rfl)).trans' (.set (· = b) _ (a := ⟨b, 2, none⟩) (.int .i64 ((L.length - 8 * (m' + 1) : Nat) : Int)) rfl)
    have hfin : WrAt _ b l19 L (m' + 1) := ⟨by omega, c3, by
      have := ho18.keep hf24 (fun y hy => by have := (ho18.blk hy).1; omega)
      rw [bytesOf_succ, byteV, List.map_append]; exact this⟩
    refine ⟨⟨l19, m' + 1, hfin, by omega, by omega, ?_, ?_⟩, ?_⟩
    · refine (hf11.trans hf18 ?_).trans hf24 (fun k _ hk => .inl hk)
      rintro k hk ⟨y, hy, rfl⟩
      rcases hs9 y hy with ⟨z, hz, hzb⟩ | hn
      · exact .inr ⟨z, hz, hzb.symm⟩
      · omega
    · exact hs9.trans (w' := w11) hs18 hf11.size
    · have q1 := hfin.c2
      have q2 := h9.c2
      simp only [q1, q2, Int.toNat_natCast]
      omega
  · have hlt := of_decide_eq_false hlt
    have : m' = L.length / 8 := by have := h9.lo; omega
    subst this
    exact ⟨rfl, sl', ⟨h9, by omega⟩, hf9, hs9⟩
theorem WX.back {w : World} {b : Nat} {sl sl' : Sl} (h : Since w sl sl') {k : Nat} (hk : k < w.heap.size) (hx : WX b sl' k) : WX b sl k := by
  rcases hx with h1 | ⟨y, hy, rfl⟩
  · exact .inl h1
  · rcases h y hy with ⟨z, hz, hb⟩ | hn
    · exact .inr ⟨z, hz, hb.symm⟩
    · omega

/-- A code's bits are put, the highest first. -/
theorem wcode_spec {w : World} {b : Nat} {sl : Sl} {l : List Bool} (h : Wrt w b sl l) {x n : Nat} (hx : x < 4294967296) (h1 : 1 ≤ n) (hn : n ≤ 32) (hl : l.length + n ≤ 1099511627776) :
    Calls Tryz.prog F_bitin_Writer_Code #[.pointer (some ⟨b, 0, none⟩), .int .u32 x, .int .i64 n] w fun e w' =>
      e = .returned (.tuple #[]) ∧ ∃ sl', Wrt w' b sl' (l ++ (lowB n x).reverse) ∧ Fr (WX b sl) w w' ∧ Since w sl sl' := by
  refine vc_bitin_Writer_Code_ok (R := fun v w' => v = .tuple #[] ∧ ∃ sl', Wrt w' b sl' (l ++ (lowB n x).reverse) ∧ Fr (WX b sl) w w' ∧ Since w sl sl') ?_ (fun v w' h => ⟨by rw [h.1], h.2⟩)
  refine ⟨fun hlt => absurd (of_decide_eq_true hlt) (by omega), fun _ => ⟨fun hgt => absurd (of_decide_eq_true hgt) (by omega), fun _ => ?_⟩⟩
  refine ⟨fun i w' => ∃ (k : Nat) (sl' : Sl), k ≤ n ∧ i = (k : Int) - 1 ∧ Wrt w' b sl' (l ++ ((lowB n x).drop k).reverse) ∧ Fr (WX b sl) w w' ∧ Since w sl sl', fun i _ => (i + 1).toNat,
    ⟨n, sl, Nat.le_refl _, by rw [wrap_i64 (by omega) (by omega)], by rw [List.drop_eq_nil_of_le (by rw [lowB_length]; omega)]; simpa using h, .refl _ _, .refl _ _⟩, ?_⟩
  rintro i w4 ⟨k, sl', hk, rfl, h4, hf, hs⟩
  refine ⟨fun h => ?_, fun h => ?_⟩
  · have h := of_decide_eq_true h
    have hm : min ((k : Int) - 1).toNat 32 = k - 1 := by omega
    have hp : ((2 : Int) ^ (k - 1)) = ((2 ^ (k - 1) : Nat) : Int) := by push_cast; rfl
    rw [hm, hp, Int.fdiv_eq_ediv_of_nonneg _ (Int.natCast_nonneg _), ← Int.natCast_ediv]
    refine ⟨by omega, ?_⟩
    have hxl : x / 2 ^ (k - 1) ≤ x := Nat.div_le_self _ _
    have hlen : (l ++ ((lowB n x).drop k).reverse).length = l.length + (n - k) := by rw [List.length_append, List.length_reverse, List.length_drop, lowB_length]
    refine (wbits_spec h4 (x := x / 2 ^ (k - 1)) (n := 1) (by omega) (by decide) (by omega)).mono ?_
    rintro e w6 ⟨rfl, sl2, h6, f6, s6⟩
    have e1 : IntKind.i64.wrap ((k : Int) - 1 - 1) = ((k - 1 : Nat) : Int) - 1 := by rw [wrap_i64 (by omega) (by omega)]; omega
    rw [e1]
    refine ⟨rfl, ⟨k - 1, sl2, by omega, rfl, ?_, hf.trans f6 (fun q hq hx => WX.back hs hq hx), hs.trans s6 hf.size⟩, by dsimp only; omega⟩
    have hlt : k - 1 < (lowB n x).length := by rw [lowB_length]; omega
    have hd : (lowB n x).drop (k - 1) = (lowB n x)[k - 1] :: (lowB n x).drop k := by
      rw [List.drop_eq_getElem_cons hlt, show k - 1 + 1 = k by omega]
    have hb : lowB 1 (x / 2 ^ (k - 1)) = [(lowB n x)[k - 1]] := by
      have h1 := lowB_get n x (k - 1) (by omega)
      rw [List.getElem?_eq_getElem hlt] at h1
      simp only [Option.some.injEq] at h1
      rw [h1, Nat.testBit_eq_decide_div_mod_eq]
      simp only [lowB, List.cons.injEq, and_true]
      rfl
    rw [hb, List.append_assoc] at h6
    rw [hd, List.reverse_cons]
    exact h6
  · have h := of_decide_eq_false h
    have : k = 0 := by omega
    subst this
    exact ⟨rfl, sl', h4, hf, hs⟩
/-- The byte that has been begun is filled. -/
theorem walign_spec {w : World} {b : Nat} {sl : Sl} {l : List Bool} (h : Wrt w b sl l) (hl : l.length + 8 ≤ 1099511627776) :
    Calls Tryz.prog F_bitin_Writer_Align #[.pointer (some ⟨b, 0, none⟩)] w fun e w' =>
      e = .returned (.tuple #[]) ∧ ∃ sl', Wrt w' b sl' (fill8 l) ∧ Fr (WX b sl) w w' ∧ Since w sl sl' := by
  refine vc_bitin_Writer_Align_ok (R := fun v w' => v = .tuple #[] ∧ ∃ sl', Wrt w' b sl' (fill8 l) ∧ Fr (WX b sl) w w' ∧ Since w sl sl') ?_ (fun v w' h => ⟨by rw [h.1], h.2⟩)
  refine ⟨_, h.1.c2, fun hgt => ⟨_, h.1.c2, ?_⟩, fun hle => ?_⟩
  · have hgt := of_decide_eq_true hgt
    have e1 : IntKind.i64.wrap (8 - ((l.length - 8 * (l.length / 8) : Nat) : Int)) = ((8 - l.length % 8 : Nat) : Int) := by rw [wrap_i64 (by omega) (by omega)]; omega
    rw [e1]
    refine (wbits_spec h (x := 0) (n := 8 - l.length % 8) (by decide) (by omega) (by omega)).mono ?_
    rintro e w4 ⟨rfl, sl', h4, f4, s4⟩
    rw [fill8_lowB l (by omega)] at h4
    exact ⟨rfl, rfl, sl', h4, f4, s4⟩
  · have hle := of_decide_eq_false hle
    rw [fill8_whole l (by omega)]
    exact ⟨rfl, sl, h, .refl _ _, .refl _ _⟩

/-- Whole bytes are put, behind an Align. -/
theorem wbytes_spec {w : World} {b : Nat} {sl : Sl} {l : List Bool} (h : Wrt w b sl l) (s : ByteArray) (hl : l.length + 8 + 8 * s.size ≤ 1099511627776) :
    Calls Tryz.prog F_bitin_Writer_Bytes #[.pointer (some ⟨b, 0, none⟩), .string s] w fun e w' =>
      e = .returned (.tuple #[]) ∧ ∃ sl', Wrt w' b sl' (fill8 l ++ sbits s.data.toList) ∧ Fr (WX b sl) w w' ∧ Since w sl sl' := by
  refine vc_bitin_Writer_Bytes_ok (R := fun v w' => v = .tuple #[] ∧ ∃ sl', Wrt w' b sl' (fill8 l ++ sbits s.data.toList) ∧ Fr (WX b sl) w w' ∧ Since w sl sl') ?_ (fun v w' h => ⟨by rw [h.1], h.2⟩)
  refine (walign_spec h (by omega)).mono ?_
  rintro e w2 ⟨rfl, sl2, h2, f2, s2⟩
  have hfl := fill8_length l
  have hss : s.data.toList.length = s.size := by simp
  have hq : (fill8 l).length / 8 = (l.length + 7) / 8 := by omega
  obtain ⟨g, _⟩ := h2
  rw [hq] at g
  have hb2 := lt_blk g.blk
  have hxl : (byteV (bytesOf (fill8 l) ((l.length + 7) / 8))).length = (l.length + 7) / 8 := by rw [List.length_map, bytesOf_length]
  obtain ⟨w4, l5, hr, ho, hf, hs⟩ := append_str (u := T_string) elU8 (by kernel_rfl) g.own s (by rw [hxl]; omega) hb2
  refine ⟨rfl, sl2, g.c0, w4, l5, hr, ?_⟩
  have k4 := hf.keep g.blk (fun ⟨y, hy, e⟩ => by have := (g.own.blk hy).1; omega)
  refine ⟨wr_blk k4 (by simp), ?_⟩
  rintro w6 rfl
  have c0 := set_blk k4 0 (.slice l5.a l5.len l5.cap)
  have hd0 : (fill8 l).drop (8 * ((l.length + 7) / 8)) = [] := List.drop_eq_nil_of_le (by omega)
  have hL : (fill8 l ++ sbits s.data.toList).length = 8 * ((l.length + 7) / 8 + s.size) := by rw [List.length_append, sbits_length, hss]; omega
  have hset : Fr (· = b) w4 _ := Fr.set (· = b) _ (a := ⟨b, 0, none⟩) (.slice l5.a l5.len l5.cap) rfl
  refine ⟨rfl, l5, ⟨⟨by omega, ?_, ?_⟩, by omega⟩, (f2.trans hf (fun k hk hx => WX.back s2 hk (.inr hx))).trans hset (fun k _ hk => .inl hk), s2.trans hs f2.size⟩
  · have hd1 : (fill8 l ++ sbits s.data.toList).drop (8 * ((fill8 l ++ sbits s.data.toList).length / 8)) = [] := List.drop_eq_nil_of_le (by omega)
    have hn0 : (fill8 l).length - 8 * ((l.length + 7) / 8) = 0 := by omega
    have hn1 : (fill8 l ++ sbits s.data.toList).length - 8 * ((fill8 l ++ sbits s.data.toList).length / 8) = 0 := by omega
    rw [hd1, hn1]
    rw [hd0, hn0] at c0
    exact c0
  · have hbs := bytesOf_sbits (fill8 l) ((l.length + 7) / 8) hfl s.data.toList s.data.toList.length (Nat.le_refl _)
    rw [List.take_length, hss] at hbs
    rw [show (fill8 l ++ sbits s.data.toList).length / 8 = (l.length + 7) / 8 + s.size by omega, hbs, byteV, List.map_append]
    exact ho.keep hset (fun y hy => by have := (ho.blk hy).1; omega)

/-- The bytes. -/
theorem wtext_spec {w : World} {b : Nat} {sl : Sl} {l : List Bool} (h : Wrt w b sl l) :
    Calls Tryz.prog F_bitin_Writer_Text #[.pointer (some ⟨b, 0, none⟩)] w fun e w' => e = .returned (.string ⟨(textOf l).toArray⟩) ∧ Fr (fun _ => False) w w' := by
  refine vc_bitin_Writer_Text_ok (R := fun v w' => v = .string ⟨(textOf l).toArray⟩ ∧ Fr (fun _ => False) w w') ?_ (fun v w' h => ⟨by rw [h.1], h.2⟩)
  obtain ⟨g, hl⟩ := h
  have hlen : (bytesOf l (l.length / 8)).length = sl.len := by rw [g.own.len, List.length_map]
  refine ⟨_, g.c2, fun hgt => ?_, fun hle => ?_⟩
  · have hgt := of_decide_eq_true hgt
    intro w2 d
    have g2 := g.drew d
    have hc : ∀ w', Fr (fun _ => False) w2 w' → (convert T_S_uint8 T_string (.slice sl.a sl.len sl.cap)).run Tryz.prog w' = .ok (.string ⟨(bytesOf l (l.length / 8)).toArray⟩) w' := fun w' f =>
      bytes_str elU8.sl (by kernel_rfl) (by kernel_rfl) _ ((g2.keep f (by simp) (by simp)).own.reads) hlen
    refine ⟨Fr (fun _ => False) w2, .refl _ _, sl, fun w' f => (g2.keep f (by simp) (by simp)).c0, _, fun w' f => (g2.keep f (by simp) (by simp)).c1, _, fun w' f => hc w' f, ?_⟩
    rintro w10 rfl
    have f10 : Fr (fun _ => False) w2 _ := Fr.alloc (fun _ => False) w2 (.cells #[.int .u8 (IntKind.u8.wrap ((num (l.drop (8 * (l.length / 8))) : Nat) : Int))] T_uint8)
    refine ⟨f10, ?_⟩
    have hbyte : IntKind.u8.wrap ((num (l.drop (8 * (l.length / 8))) : Nat) : Int) = (((BitsM.byteOf l (l.length / 8)).toNat : Nat) : Int) := by
      rw [wrap_u8_mod, byteOf_nat, num_take]; rfl
    rw [hbyte] at f10 ⊢
    have hr : Reads (w2.alloc (.cells #[.int .u8 (((BitsM.byteOf l (l.length / 8)).toNat : Nat) : Int)] T_uint8)) (some ⟨w2.heap.size, 0, none⟩) (byteV [BitsM.byteOf l (l.length / 8)]) := by
      intro i v hv
      refine ⟨_, rfl, ?_⟩
      rw [add_lit, cell_blk (alloc_new _ _), ← hv, Nat.zero_add]
      cases i <;> simp
    refine ⟨_, _, bytes_str elU8.sl (by kernel_rfl) (by kernel_rfl) _ hr rfl, f10, ?_, ?_, (Fr.drew (fun _ => False) d).trans' f10⟩
    · show (bytesOf l (l.length / 8)).toArray.size + 1 ≤ _
      rw [List.size_toArray, bytesOf_length]; omega
    · congr 1
      unfold textOf
      rw [show (l.length + 7) / 8 = l.length / 8 + 1 by omega, bytesOf_succ]
      apply ByteArray.ext
      rw [ByteArray.data_append]
      simp
  · have hle := of_decide_eq_false hle
    refine ⟨sl, g.c0, w, _, bytes_str elU8.sl (by kernel_rfl) (by kernel_rfl) _ g.own.reads hlen, ?_, .refl _ _⟩
    unfold textOf
    rw [show (l.length + 7) / 8 = l.length / 8 by omega]
end Go.Proofs.YtllegkmadljmaaaGreatDoor

/- Formulas of 5 Go functions of this seat (written by a program of the author's, vcgen.py), and that each is enough for the call. No condition. -/
set_option linter.unusedVariables false
namespace Go.Proofs.YtllegkmadljmaaaGreatDoor
open Go Vc Go.Proofs
set_option maxRecDepth 100000
def vc_inflate_Stored (x0 : ByteArray) (w : World) (R : Value → World → Prop) : Prop :=
 ∀ w1 : World,
 (w1 = World.alloc w (Obj.cells (Array.mk [Value.slice none 0 0, Value.int .u64 0, Value.int .i64 0]) 160) →
 ∃ I2 : ByteArray → World → Prop, ∃ I3 : ByteArray → World → Nat, (I2 x0 w1 ∧
 ∀ s4 : ByteArray,
 ∀ w5 : World,
 (I2 s4 w5 →
 ∃ I6 : Int → World → Prop, (((((((if 65535 < (↑(ByteArray.size s4) : Int) then 65535 else (↑(ByteArray.size s4) : Int)) == (↑(ByteArray.size s4) : Int)) = true) →
 I6 1 w5)) ∧
 ((((if 65535 < (↑(ByteArray.size s4) : Int) then 65535 else (↑(ByteArray.size s4) : Int)) == (↑(ByteArray.size s4) : Int)) = false) →
 I6 0 w5)) ∧
 ∀ n7 : Int,
 ∀ w8 : World,
 (I6 n7 w8 →
 Calls Tryz.prog (105 : Nat) (Array.mk [Value.pointer (some (Addr.mk (Array.size (World.heap w)) 0 none)), Value.int .u32 n7, Value.int .i64 3]) (w8) (fun e9 w10 =>
 (e9 = Ending.returned (Value.tuple (Array.mk [])) ∧
 ∀ w11 : World,
 (Drew w10 w11 →
 ∃ I12 : World → Prop, (I12 w11 ∧
 (((0 ≤ if 65535 < (↑(ByteArray.size s4) : Int) then 65535 else (↑(ByteArray.size s4) : Int)) ∧
 ((if 65535 < (↑(ByteArray.size s4) : Int) then 65535 else (↑(ByteArray.size s4) : Int)) ≤ (↑(ByteArray.size s4) : Int))) ∧
 Calls Tryz.prog (149 : Nat) ((Array.mk [Value.int .u64 (IntKind.wrap .u64 (if 65535 < (↑(ByteArray.size s4) : Int) then 65535 else (↑(ByteArray.size s4) : Int))), Value.int .i64 2])) (w11) (fun e13 w14 =>
 ∃ s15 : ByteArray, (e13 = Ending.returned (Value.string s15) ∧
 (I12 w14 ∧
 Calls Tryz.prog (149 : Nat) ((Array.mk [Value.int .u64 (IntKind.wrap .u64 (IntKind.wrap .i64 (↑(BitVec.toNat (BitVec.ofInt 64 (if 65535 < (↑(ByteArray.size s4) : Int) then 65535 else (↑(ByteArray.size s4) : Int)) ^^^ BitVec.ofInt 64 65535)) : Int))), Value.int .i64 2])) (w14) (fun e16 w17 =>
 ∃ s18 : ByteArray, (e16 = Ending.returned (Value.string s18) ∧
 (I12 w17 ∧
 (ByteArray.size s15 + ByteArray.size s18 ≤ 9223372036854775807 ∧
 ((ByteArray.size (s15 ++ s18) + ByteArray.size (ByteArray.extract s4 0 (Int.toNat (if 65535 < (↑(ByteArray.size s4) : Int) then 65535 else (↑(ByteArray.size s4) : Int)))) ≤ 9223372036854775807) ∧
 Calls Tryz.prog (148 : Nat) ((Array.mk [Value.pointer (some (Addr.mk (Array.size (World.heap w)) 0 none)), Value.string (s15 ++ s18 ++ ByteArray.extract s4 0 (Int.toNat (if 65535 < (↑(ByteArray.size s4) : Int) then 65535 else (↑(ByteArray.size s4) : Int))))])) (w17) (fun e19 w20 =>
 (e19 = Ending.returned (Value.tuple (Array.mk [])) ∧
 (((0 ≤ if 65535 < (↑(ByteArray.size s4) : Int) then 65535 else (↑(ByteArray.size s4) : Int)) ∧
 ((if 65535 < (↑(ByteArray.size s4) : Int) then 65535 else (↑(ByteArray.size s4) : Int)) ≤ (↑(ByteArray.size s4) : Int))) ∧
 ((((n7 == 1) = true →
 Calls Tryz.prog (111 : Nat) (Array.mk [Value.pointer (some (Addr.mk (Array.size (World.heap w)) 0 none))]) (w20) (fun e21 w22 =>
 ∃ s23 : ByteArray, (e21 = Ending.returned (Value.string s23) ∧
 R (Value.string s23) w22)))) ∧
 ((n7 == 1) = false →
 ((I2 (ByteArray.extract s4 (Int.toNat (if 65535 < (↑(ByteArray.size s4) : Int) then 65535 else (↑(ByteArray.size s4) : Int))) (ByteArray.size s4)) w20) ∧
 (I3 (ByteArray.extract s4 (Int.toNat (if 65535 < (↑(ByteArray.size s4) : Int) then 65535 else (↑(ByteArray.size s4) : Int))) (ByteArray.size s4)) w20 < I3 s4 w5)))))))))))))))))))))))))
theorem vc_inflate_Stored_ok {x0 : ByteArray} {w : World} {R : Value → World → Prop} {R' : Ending → World → Prop} (h : vc_inflate_Stored x0 w R) (hR : ∀ v w', R v w' → R' (.returned v) w') :
    Calls Tryz.prog 112 #[.string x0] w R' :=
  calls_of_body (vs := [(.string x0, false)]) (ty := ty) (ann := ⟨[(6, [(5, .int .u32)])], [(2, [(0, .str)])], [(7, .held [(0, true), (1, true), (3, true), (4, true), (5, true), (8, true), (9, true), (10, true), (2, false), (6, false), (7, true), (11, true), (12, false)])], []⟩) (c := Tryz.f112.body.getD .skip) (by kernel_rfl) Tryz.func112 (by kernel_rfl) (by kernel_rfl) (Eq.mp (by kernel_rfl) h) hR
def vc_huff_Table_Code (x0 : Nat) (x1 : Int) (w : World) (R : Value → World → Prop) : Prop :=
 (((decide (x1 < 0) = true →
 R (Value.tuple (Array.mk [Value.int .u32 0, Value.int .i64 0])) w)) ∧
 (decide (x1 < 0) = false →
 ∃ l1 : Sl, (World.cell? w (Addr.mk x0 0 none) = some (Value.slice l1.1 l1.2 l1.3) ∧
 (((decide (x1 ≥ (↑l1.2 : Int)) = true →
 R (Value.tuple (Array.mk [Value.int .u32 0, Value.int .i64 0])) w)) ∧
 (decide (x1 ≥ (↑l1.2 : Int)) = false →
 ∃ l2 : Sl, (World.cell? w (Addr.mk x0 0 none) = some (Value.slice l2.1 l2.2 l2.3) ∧
 ((0 ≤ x1 ∧
 x1 < (↑l2.2 : Int)) ∧
 ∃ a3 : Addr, (l2.1 = some a3 ∧
 ∃ n4 : Int, (World.cell? w (Addr.add a3 (Int.toNat x1 * 1)) = some (Value.int .i64 n4) ∧
 ((((n4 == 0) = true →
 R (Value.tuple (Array.mk [Value.int .u32 0, Value.int .i64 0])) w)) ∧
 ((n4 == 0) = false →
 ∃ I5 : Int → Int → Int → World → Prop, ∃ I6 : Int → Int → Int → World → Nat, (I5 0 0 1 w ∧
 ∀ n7 : Int,
 ∀ n8 : Int,
 ∀ n9 : Int,
 ∀ w10 : World,
 (I5 n7 n8 n9 w10 →
 (((decide (n9 ≤ 15) = true →
 ((0 : Int) ≤ (1 : Int) ∧
 ((0 ≤ n9 ∧
 n9 < (↑16 : Int)) ∧
 ∃ n11 : Int, (World.cell? w10 (Addr.add (Addr.mk x0 1 none) (Int.toNat n9 * 1)) = some (Value.int .i64 n11) ∧
 ∃ I12 : Int → Int → Int → World → Prop, ∃ I13 : Int → Int → Int → World → Nat, (I12 (IntKind.wrap .u32 (n7 * 2 ^ min (Int.toNat 1) 32)) n8 0 w10 ∧
 ∀ n14 : Int,
 ∀ n15 : Int,
 ∀ n16 : Int,
 ∀ w17 : World,
 (I12 n14 n15 n16 w17 →
 (((decide (n16 < n11) = true →
 ∃ l18 : Sl, (World.cell? w17 (Addr.mk x0 17 none) = some (Value.slice l18.1 l18.2 l18.3) ∧
 ((0 ≤ n15 ∧
 n15 < (↑l18.2 : Int)) ∧
 ∃ a19 : Addr, (l18.1 = some a19 ∧
 ∃ n20 : Int, (World.cell? w17 (Addr.add a19 (Int.toNat n15 * 1)) = some (Value.int .i64 n20) ∧
 ((((n20 == x1) = true →
 R (Value.tuple (Array.mk [Value.int .u32 n14, Value.int .i64 n9])) w17)) ∧
 ((n20 == x1) = false →
 (I12 (IntKind.wrap .u32 (n14 + 1)) (IntKind.wrap .i64 (n15 + 1)) (IntKind.wrap .i64 (n16 + 1)) w17 ∧
 I13 (IntKind.wrap .u32 (n14 + 1)) (IntKind.wrap .i64 (n15 + 1)) (IntKind.wrap .i64 (n16 + 1)) w17 < I13 n14 n15 n16 w17))))))))) ∧
 (decide (n16 < n11) = false →
 (I5 n14 n15 (IntKind.wrap .i64 (n9 + 1)) w17 ∧
 I6 n14 n15 (IntKind.wrap .i64 (n9 + 1)) w17 < I6 n7 n8 n9 w10)))))))))) ∧
 (decide (n9 ≤ 15) = false →
 R (Value.tuple (Array.mk [Value.int .u32 0, Value.int .i64 0])) w10)))))))))))))))
theorem vc_huff_Table_Code_ok {x0 : Nat} {x1 : Int} {w : World} {R : Value → World → Prop} {R' : Ending → World → Prop} (h : vc_huff_Table_Code x0 x1 w R) (hR : ∀ v w', R v w' → R' (.returned v) w') :
    Calls Tryz.prog 106 #[.pointer (some ⟨x0, 0, none⟩), .int .i64 x1] w R' :=
  calls_of_body (vs := [(.pointer (some ⟨x0, 0, none⟩), true), (.int .i64 x1, false)]) (ty := ty) (ann := ⟨[], [(5, [(6, .int .u32), (7, .int .i64), (8, .int .i64)]), (9, [(6, .int .u32), (7, .int .i64), (42, .int .i64)])], [], []⟩) (c := Tryz.f106.body.getD .skip) (by kernel_rfl) Tryz.func106 (by kernel_rfl) (by kernel_rfl) (Eq.mp (by kernel_rfl) h) hR
def vc_inflate_symbolOf_len (x0 : Int) (x1 : Int) (w : World) (R : Value → World → Prop) : Prop :=
 ∃ I1 : Int → World → Prop, ∃ I2 : Int → World → Nat, (I1 x1 w ∧
 ∀ n3 : Int,
 ∀ w4 : World,
 (I1 n3 w4 →
 Calls Tryz.prog (109 : FuncId) (Array.mk [Value.int .i64 n3]) (w4) (fun e5 w6 =>
 ∃ n7 : Int, ∃ n8 : Int, (e5 = Ending.returned (Value.tuple (Array.mk [Value.int .i64 n7, Value.int .i64 n8])) ∧
 (((decide (n7 ≤ x0) = true →
 R (Value.tuple (Array.mk [Value.int .i64 n3, Value.int .u32 (IntKind.wrap .u32 (IntKind.wrap .i64 (x0 - n7))), Value.int .i64 n8])) w6)) ∧
 (decide (n7 ≤ x0) = false →
 (I1 (IntKind.wrap .i64 (n3 - 1)) w6 ∧
 I2 (IntKind.wrap .i64 (n3 - 1)) w6 < I2 n3 w4)))))))
theorem vc_inflate_symbolOf_len_ok {x0 : Int} {x1 : Int} {w : World} {R : Value → World → Prop} {R' : Ending → World → Prop} (h : vc_inflate_symbolOf_len x0 x1 w R) (hR : ∀ v w', R v w' → R' (.returned v) w') :
    Calls Tryz.prog 108 #[.int .i64 x0, .int .i64 x1, .func (.func 109) #[] #[]] w R' :=
  calls_of_body (vs := [(.int .i64 x0, false), (.int .i64 x1, false), (.func (.func 109) #[] #[], false)]) (ty := ty) (ann := ⟨[], [(3, [(9, .int .i64)])], [], []⟩) (c := Tryz.f108.body.getD .skip) (by kernel_rfl) Tryz.func108 (by kernel_rfl) (by kernel_rfl) (Eq.mp (by kernel_rfl) h) hR
def vc_inflate_symbolOf_dist (x0 : Int) (x1 : Int) (w : World) (R : Value → World → Prop) : Prop :=
 ∃ I1 : Int → World → Prop, ∃ I2 : Int → World → Nat, (I1 x1 w ∧
 ∀ n3 : Int,
 ∀ w4 : World,
 (I1 n3 w4 →
 Calls Tryz.prog (110 : FuncId) (Array.mk [Value.int .i64 n3]) (w4) (fun e5 w6 =>
 ∃ n7 : Int, ∃ n8 : Int, (e5 = Ending.returned (Value.tuple (Array.mk [Value.int .i64 n7, Value.int .i64 n8])) ∧
 (((decide (n7 ≤ x0) = true →
 R (Value.tuple (Array.mk [Value.int .i64 n3, Value.int .u32 (IntKind.wrap .u32 (IntKind.wrap .i64 (x0 - n7))), Value.int .i64 n8])) w6)) ∧
 (decide (n7 ≤ x0) = false →
 (I1 (IntKind.wrap .i64 (n3 - 1)) w6 ∧
 I2 (IntKind.wrap .i64 (n3 - 1)) w6 < I2 n3 w4)))))))
theorem vc_inflate_symbolOf_dist_ok {x0 : Int} {x1 : Int} {w : World} {R : Value → World → Prop} {R' : Ending → World → Prop} (h : vc_inflate_symbolOf_dist x0 x1 w R) (hR : ∀ v w', R v w' → R' (.returned v) w') :
    Calls Tryz.prog 108 #[.int .i64 x0, .int .i64 x1, .func (.func 110) #[] #[]] w R' :=
  calls_of_body (vs := [(.int .i64 x0, false), (.int .i64 x1, false), (.func (.func 110) #[] #[], false)]) (ty := ty) (ann := ⟨[], [(3, [(9, .int .i64)])], [], []⟩) (c := Tryz.f108.body.getD .skip) (by kernel_rfl) Tryz.func108 (by kernel_rfl) (by kernel_rfl) (Eq.mp (by kernel_rfl) h) hR
def vc_inflate_Deflate (x0 : ByteArray) (w : World) (R : Value → World → Prop) : Prop :=
 ∀ w1 : World,
 (w1 = World.alloc w (Obj.cells (Array.mk [Value.slice none 0 0, Value.int .u64 0, Value.int .i64 0]) 160) →
 Calls Tryz.prog (104 : Nat) (Array.mk []) (w1) (fun e2 w3 =>
 ∃ p4 : Option Addr, ∃ p5 : Option Addr, (e2 = Ending.returned (Value.tuple (Array.mk [Value.pointer p4, Value.pointer p5])) ∧
 Calls Tryz.prog (105 : Nat) (Array.mk [Value.pointer (some (Addr.mk (Array.size (World.heap w)) 0 none)), Value.int .u32 3, Value.int .i64 3]) (w3) (fun e6 w7 =>
 (e6 = Ending.returned (Value.tuple (Array.mk [])) ∧
 ∀ w8 : World,
 (w8 = World.alloc w7 (Obj.map (Array.mk []) 0) →
 ∃ I9 : Int → World → Prop, ∃ I10 : Int → World → Nat, (I9 0 w8 ∧
 ∀ n11 : Int,
 ∀ w12 : World,
 (I9 n11 w12 →
 (((decide (n11 < (↑(ByteArray.size x0) : Int)) = true →
 ∃ I13 : Int → Int → World → Prop, ((((decide (IntKind.wrap .i64 (n11 + 3) ≤ (↑(ByteArray.size x0) : Int)) = true →
 ((0 ≤ n11 ∧
 (n11 ≤ IntKind.wrap .i64 (n11 + 3) ∧
 IntKind.wrap .i64 (n11 + 3) ≤ (↑(ByteArray.size x0) : Int))) ∧
 ∃ w14 : World, ∃ n15 : Int, ∃ b16 : Bool, (Sem.run Tryz.prog (Instr.lookup 165 (Value.map (some (Array.size (World.heap w7)))) (Value.string (ByteArray.extract x0 (Int.toNat n11) (Int.toNat (IntKind.wrap .i64 (n11 + 3))))) true) w12 = Result.ok (Value.tuple (Array.mk [Value.int .i64 n15, Value.bool b16])) w14 ∧
 (((b16 = true →
 (((decide (IntKind.wrap .i64 (n11 - n15) ≤ 32768) = true →
 ∃ I17 : Int → World → Prop, ∃ I18 : Int → World → Nat, (I17 0 w14 ∧
 ∀ n19 : Int,
 ∀ w20 : World,
 (I17 n19 w20 →
 (((decide (n19 < 258) = true →
 (((decide (IntKind.wrap .i64 (n11 + n19) < (↑(ByteArray.size x0) : Int)) = true →
 ((0 ≤ IntKind.wrap .i64 (n15 + n19) ∧
 IntKind.wrap .i64 (n15 + n19) < (↑(ByteArray.size x0) : Int)) ∧
 ((0 ≤ IntKind.wrap .i64 (n11 + n19) ∧
 IntKind.wrap .i64 (n11 + n19) < (↑(ByteArray.size x0) : Int)) ∧
 ∀ w21 : World,
 (Drew w20 w21 →
 ((((byteAt x0 (IntKind.wrap .i64 (n15 + n19)) == byteAt x0 (IntKind.wrap .i64 (n11 + n19))) = true →
 (I17 (IntKind.wrap .i64 (n19 + 1)) w21 ∧
 I18 (IntKind.wrap .i64 (n19 + 1)) w21 < I18 n19 w20))) ∧
 ((byteAt x0 (IntKind.wrap .i64 (n15 + n19)) == byteAt x0 (IntKind.wrap .i64 (n11 + n19))) = false →
 ((0 ≤ n11 ∧
 (n11 ≤ IntKind.wrap .i64 (n11 + 3) ∧
 IntKind.wrap .i64 (n11 + 3) ≤ (↑(ByteArray.size x0) : Int))) ∧
 ∃ w22 : World, (Sem.run Tryz.prog (Instr.mapUpdate 165 (Value.map (some (Array.size (World.heap w7)))) (Value.string (ByteArray.extract x0 (Int.toNat n11) (Int.toNat (IntKind.wrap .i64 (n11 + 3))))) (Value.int .i64 n11)) w21 = Result.ok PUnit.unit w22 ∧
 I13 n19 (IntKind.wrap .i64 (n11 - n15)) w22))))))))) ∧
 (decide (IntKind.wrap .i64 (n11 + n19) < (↑(ByteArray.size x0) : Int)) = false →
 ∀ w23 : World,
 (Drew w20 w23 →
 ((0 ≤ n11 ∧
 (n11 ≤ IntKind.wrap .i64 (n11 + 3) ∧
 IntKind.wrap .i64 (n11 + 3) ≤ (↑(ByteArray.size x0) : Int))) ∧
 ∃ w24 : World, (Sem.run Tryz.prog (Instr.mapUpdate 165 (Value.map (some (Array.size (World.heap w7)))) (Value.string (ByteArray.extract x0 (Int.toNat n11) (Int.toNat (IntKind.wrap .i64 (n11 + 3))))) (Value.int .i64 n11)) w23 = Result.ok PUnit.unit w24 ∧
 I13 n19 (IntKind.wrap .i64 (n11 - n15)) w24))))))) ∧
 (decide (n19 < 258) = false →
 ∀ w25 : World,
 (Drew w20 w25 →
 ((0 ≤ n11 ∧
 (n11 ≤ IntKind.wrap .i64 (n11 + 3) ∧
 IntKind.wrap .i64 (n11 + 3) ≤ (↑(ByteArray.size x0) : Int))) ∧
 ∃ w26 : World, (Sem.run Tryz.prog (Instr.mapUpdate 165 (Value.map (some (Array.size (World.heap w7)))) (Value.string (ByteArray.extract x0 (Int.toNat n11) (Int.toNat (IntKind.wrap .i64 (n11 + 3))))) (Value.int .i64 n11)) w25 = Result.ok PUnit.unit w26 ∧
 I13 n19 (IntKind.wrap .i64 (n11 - n15)) w26))))))))) ∧
 (decide (IntKind.wrap .i64 (n11 - n15) ≤ 32768) = false →
 ((0 ≤ n11 ∧
 (n11 ≤ IntKind.wrap .i64 (n11 + 3) ∧
 IntKind.wrap .i64 (n11 + 3) ≤ (↑(ByteArray.size x0) : Int))) ∧
 ∃ w27 : World, (Sem.run Tryz.prog (Instr.mapUpdate 165 (Value.map (some (Array.size (World.heap w7)))) (Value.string (ByteArray.extract x0 (Int.toNat n11) (Int.toNat (IntKind.wrap .i64 (n11 + 3))))) (Value.int .i64 n11)) w14 = Result.ok PUnit.unit w27 ∧
 I13 0 0 w27)))))) ∧
 (b16 = false →
 ((0 ≤ n11 ∧
 (n11 ≤ IntKind.wrap .i64 (n11 + 3) ∧
 IntKind.wrap .i64 (n11 + 3) ≤ (↑(ByteArray.size x0) : Int))) ∧
 ∃ w28 : World, (Sem.run Tryz.prog (Instr.mapUpdate 165 (Value.map (some (Array.size (World.heap w7)))) (Value.string (ByteArray.extract x0 (Int.toNat n11) (Int.toNat (IntKind.wrap .i64 (n11 + 3))))) (Value.int .i64 n11)) w14 = Result.ok PUnit.unit w28 ∧
 I13 0 0 w28)))))))) ∧
 (decide (IntKind.wrap .i64 (n11 + 3) ≤ (↑(ByteArray.size x0) : Int)) = false →
 I13 0 0 w12)) ∧
 ∀ n29 : Int,
 ∀ n30 : Int,
 ∀ w31 : World,
 (I13 n29 n30 w31 →
 (((decide (n29 < 3) = true →
 ((0 ≤ n11 ∧
 n11 < (↑(ByteArray.size x0) : Int)) ∧
 Calls Tryz.prog (106 : Nat) (Array.mk [Value.pointer p4, Value.int .i64 (IntKind.wrap .i64 (byteAt x0 n11))]) (w31) (fun e32 w33 =>
 ∃ n34 : Int, ∃ n35 : Int, (e32 = Ending.returned (Value.tuple (Array.mk [Value.int .u32 n34, Value.int .i64 n35])) ∧
 Calls Tryz.prog (107 : Nat) (Array.mk [Value.pointer (some (Addr.mk (Array.size (World.heap w)) 0 none)), Value.int .u32 n34, Value.int .i64 n35]) (w33) (fun e36 w37 =>
 (e36 = Ending.returned (Value.tuple (Array.mk [])) ∧
 (I9 (IntKind.wrap .i64 (n11 + 1)) w37 ∧
 I10 (IntKind.wrap .i64 (n11 + 1)) w37 < I10 n11 w12)))))))) ∧
 (decide (n29 < 3) = false →
 Calls Tryz.prog (108 : Nat) (Array.mk [Value.int .i64 n29, Value.int .i64 28, Value.func (Fn.func 109) (Array.mk []) (Array.mk [])]) (w31) (fun e38 w39 =>
 ∃ n40 : Int, ∃ n41 : Int, ∃ n42 : Int, (e38 = Ending.returned (Value.tuple (Array.mk [Value.int .i64 n40, Value.int .u32 n41, Value.int .i64 n42])) ∧
 Calls Tryz.prog (106 : Nat) (Array.mk [Value.pointer p4, Value.int .i64 (IntKind.wrap .i64 (257 + n40))]) (w39) (fun e43 w44 =>
 ∃ n45 : Int, ∃ n46 : Int, (e43 = Ending.returned (Value.tuple (Array.mk [Value.int .u32 n45, Value.int .i64 n46])) ∧
 Calls Tryz.prog (107 : Nat) (Array.mk [Value.pointer (some (Addr.mk (Array.size (World.heap w)) 0 none)), Value.int .u32 n45, Value.int .i64 n46]) (w44) (fun e47 w48 =>
 (e47 = Ending.returned (Value.tuple (Array.mk [])) ∧
 Calls Tryz.prog (105 : Nat) (Array.mk [Value.pointer (some (Addr.mk (Array.size (World.heap w)) 0 none)), Value.int .u32 n41, Value.int .i64 n42]) (w48) (fun e49 w50 =>
 (e49 = Ending.returned (Value.tuple (Array.mk [])) ∧
 Calls Tryz.prog (108 : Nat) (Array.mk [Value.int .i64 n30, Value.int .i64 29, Value.func (Fn.func 110) (Array.mk []) (Array.mk [])]) (w50) (fun e51 w52 =>
 ∃ n53 : Int, ∃ n54 : Int, ∃ n55 : Int, (e51 = Ending.returned (Value.tuple (Array.mk [Value.int .i64 n53, Value.int .u32 n54, Value.int .i64 n55])) ∧
 Calls Tryz.prog (106 : Nat) (Array.mk [Value.pointer p5, Value.int .i64 n53]) (w52) (fun e56 w57 =>
 ∃ n58 : Int, ∃ n59 : Int, (e56 = Ending.returned (Value.tuple (Array.mk [Value.int .u32 n58, Value.int .i64 n59])) ∧
 Calls Tryz.prog (107 : Nat) (Array.mk [Value.pointer (some (Addr.mk (Array.size (World.heap w)) 0 none)), Value.int .u32 n58, Value.int .i64 n59]) (w57) (fun e60 w61 =>
 (e60 = Ending.returned (Value.tuple (Array.mk [])) ∧
 Calls Tryz.prog (105 : Nat) (Array.mk [Value.pointer (some (Addr.mk (Array.size (World.heap w)) 0 none)), Value.int .u32 n54, Value.int .i64 n55]) (w61) (fun e62 w63 =>
 (e62 = Ending.returned (Value.tuple (Array.mk [])) ∧
 (I9 (IntKind.wrap .i64 (n11 + n29)) w63 ∧
 I10 (IntKind.wrap .i64 (n11 + n29)) w63 < I10 n11 w12))))))))))))))))))))))) ∧
 (decide (n11 < (↑(ByteArray.size x0) : Int)) = false →
 Calls Tryz.prog (106 : Nat) (Array.mk [Value.pointer p4, Value.int .i64 256]) (w12) (fun e64 w65 =>
 ∃ n66 : Int, ∃ n67 : Int, (e64 = Ending.returned (Value.tuple (Array.mk [Value.int .u32 n66, Value.int .i64 n67])) ∧
 Calls Tryz.prog (107 : Nat) (Array.mk [Value.pointer (some (Addr.mk (Array.size (World.heap w)) 0 none)), Value.int .u32 n66, Value.int .i64 n67]) (w65) (fun e68 w69 =>
 (e68 = Ending.returned (Value.tuple (Array.mk [])) ∧
 Calls Tryz.prog (111 : Nat) (Array.mk [Value.pointer (some (Addr.mk (Array.size (World.heap w)) 0 none))]) (w69) (fun e70 w71 =>
 ∃ s72 : ByteArray, (e70 = Ending.returned (Value.string s72) ∧
 Calls Tryz.prog (112 : Nat) (Array.mk [Value.string x0]) (w71) (fun e73 w74 =>
 ∃ s75 : ByteArray, (e73 = Ending.returned (Value.string s75) ∧
 (((decide ((↑(ByteArray.size s72) : Int) < (↑(ByteArray.size s75) : Int)) = true →
 R (Value.string s72) w74)) ∧
 (decide ((↑(ByteArray.size s72) : Int) < (↑(ByteArray.size s75) : Int)) = false →
 Calls Tryz.prog (112 : Nat) (Array.mk [Value.string x0]) (w74) (fun e76 w77 =>
 ∃ s78 : ByteArray, (e76 = Ending.returned (Value.string s78) ∧
 R (Value.string s78) w77))))))))))))))))))))))
theorem vc_inflate_Deflate_ok {x0 : ByteArray} {w : World} {R : Value → World → Prop} {R' : Ending → World → Prop} (h : vc_inflate_Deflate x0 w R) (hR : ∀ v w', R v w' → R' (.returned v) w') :
    Calls Tryz.prog 70 #[.string x0] w R' :=
  calls_of_body (vs := [(.string x0, false)]) (ty := ty) (ann := ⟨[(15, [(8, .int .i64), (9, .int .i64)])], [(6, [(7, .int .i64)]), (11, [(8, .int .i64)])], [(11, .quiet)], []⟩) (c := Tryz.f70.body.getD .skip) (by kernel_rfl) Tryz.func70 (by kernel_rfl) (by kernel_rfl) (Eq.mp (by kernel_rfl) h) hR
end Go.Proofs.YtllegkmadljmaaaGreatDoor
