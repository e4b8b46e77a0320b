/- A byte more; the fixed tables; a stored block. Conditions: the state is in order. -/
import Derived.Test.YtofejgaanpaieaaInfA
set_option linter.unusedVariables false
namespace Go.Proofs.Ytofejgaanpaieaa
open Go Vc BitsM HuffM Go.Proofs

/-- What a step of the inflater comes to. -/
def Rs (w w' : World) (base b rb : Nat) (sl : Sl) (s : ByteArray) (off most : Nat) (r : InfM.E (List UInt8)) (err : Int) : Prop :=
  Fr (SX b rb sl) w w' ∧ match r with
  | .error e => err = (e : Int) ∧ e ≠ 0
  | .ok (out, p) => err = 0 ∧ ∃ sl', St w' base b rb sl' s off p out most ∧ Since w sl sl'
theorem iv_snoc (l : List Int) (x : Int) : iv l ++ [.int .i64 x] = iv (l ++ [x]) := by simp [iv]
theorem byteV_snoc (l : List UInt8) (c : Nat) (h : c < 256) : byteV l ++ [.int .u8 (c : Int)] = byteV (l ++ [UInt8.ofNat c]) := by
  simp [byteV]
  omega

theorem put_spec {w : World} {base b rb off p most c : Nat} {sl : Sl} {s : ByteArray} {out : List UInt8} (h : St w base b rb sl s off p out most) (hc : c < 256) :
    Calls Try.prog F_inflate_state_put #[.pointer (some ⟨b, 0, none⟩), .int .u8 (c : Int)] w fun e w' =>
      ∃ err : Int, e = .returned (.int .i64 err) ∧ Rs w w' base b rb sl s off most (if out.length = most then .error 2 else .ok (out ++ [UInt8.ofNat c], p)) err := by
  refine vc_inflate_state_put_ok (R := fun v w' => ∃ err : Int, v = .int .i64 err ∧ Rs w w' base b rb sl s off most (if out.length = most then .error 2 else .ok (out ++ [UInt8.ofNat c], p)) err) ?_ (fun v w' ⟨e, h⟩ => ⟨e, by rw [h.1], h.2⟩)
  have hl := h.len
  refine ⟨_, h.c1, _, h.c2, fun w3 d => ⟨fun heq => ?_, fun hne => ?_⟩⟩
  · have : out.length = most := by have := eq_of_beq heq; omega
    rw [if_pos this]
    exact ⟨2, rfl, .drew _ d, rfl, by decide⟩
  · have hne : ¬ out.length = most := fun hh => by rw [hl, hh] at hne; simp at hne
    rw [if_neg hne]
    have h3 := h.drew d
    have hfit := h.fit
    have hsm := h.small
    refine ⟨_, h3.c1, fun w5 h5 => ?_⟩
    have hbl : (byteV out).length = out.length := List.length_map _
    obtain ⟨w6, l7, hr, ho, hf, hs⟩ := append_one' elByte h3.own (v := .int .u8 (c : Int)) rfl (by rw [hbl]; unfold maxLen; omega) (by rw [hbl]; omega) h3.hbase h5
    rw [byteV_snoc out c hc] at ho
    refine ⟨w6, l7, hr, ?_⟩
    obtain ⟨hw, _, _⟩ := h3.more ho hf rfl (by rw [List.length_append]; simp; omega)
    refine ⟨hw, fun w8 h8 => ?_⟩
    obtain ⟨_, hst, hfr⟩ := h3.more ho hf h8 (by rw [List.length_append]; simp; omega)
    exact ⟨0, rfl, (Fr.drew _ d).trans' hfr, rfl, l7, hst, fun y hy => by have := hs y hy; rw [d.heap] at this; exact this⟩

theorem Tab.wide {w : World} {lo hi lo' hi' b : Nat} {ls : List Nat} (h : Tab w lo hi b ls) (h1 : lo' ≤ lo) (h2 : hi ≤ hi') : Tab w lo' hi' b ls := by
  obtain ⟨l1, l2, ht, hb, hh⟩ := h.at_
  exact ⟨h.fits, h.gap, h.small, l1, l2, ⟨Nat.le_trans h1 ht.hlo, ht.blk, ht.o1.mono h1, ht.b1, ht.o2⟩, by omega, fun x hx => by have := hh x hx; omega⟩

def fixN (i : Nat) : Nat := if i < 144 ∨ 280 ≤ i then 8 else if i < 256 then 9 else 7
theorem fixedLit_eq : InfM.fixedLit = (List.range 288).map fixN := by decide +kernel
theorem fixedDist_eq : InfM.fixedDist = (List.range 32).map fun _ => 5 := by decide +kernel
theorem fixedLit_chk : InfM.chkN InfM.fixedLit = 0 := by unfold InfM.chkN; decide +kernel
theorem fixedDist_chk : InfM.chkN InfM.fixedDist = 0 := by unfold InfM.chkN; decide +kernel
theorem range_snoc (f : Nat → Int) (n : Nat) : iv ((List.range n).map f) ++ [.int .i64 (f n)] = iv ((List.range (n + 1)).map f) := by
  rw [iv_snoc, List.range_succ, List.map_append]; rfl

/-- The tables of a fixed block. -/
theorem fixed_spec (w : World) : Calls Try.prog F_inflate_fixed #[] w fun e w' =>
    ∃ lb db, e = .returned (.tuple #[.pointer (some ⟨lb, 0, none⟩), .pointer (some ⟨db, 0, none⟩)]) ∧ Tab w' w.heap.size w'.heap.size lb InfM.fixedLit ∧ Tab w' w.heap.size w'.heap.size db InfM.fixedDist ∧ Fr (fun _ => False) w w' := by
  refine vc_inflate_fixed_ok (R := fun v w' => ∃ lb db, v = .tuple #[.pointer (some ⟨lb, 0, none⟩), .pointer (some ⟨db, 0, none⟩)] ∧ Tab w' w.heap.size w'.heap.size lb InfM.fixedLit ∧ Tab w' w.heap.size w'.heap.size db InfM.fixedDist ∧ Fr (fun _ => False) w w') ?_ (fun v w' ⟨lb, db, h⟩ => ⟨lb, db, by rw [h.1], h.2⟩)
  have step : ∀ {w8 : World} {l3 : Sl} {n : Nat} (f : Nat → Int), Own w8 w.heap.size T_int l3 (iv ((List.range n).map f)) → w.heap.size ≤ w8.heap.size → n ≤ 400 → ∀ z, f n = z → ∀ w9, w9 = w8.alloc (.cells #[.int .i64 z] T_int) →
      ∃ w10 l11, (Builtin.append_ #[T_S_int, T_S_int] T_S_int #[.slice l3.a l3.len l3.cap, .slice (some ⟨w8.heap.size, 0, none⟩) 1 1]).run Try.prog w9 = .ok (.slice l11.a l11.len l11.cap) w10 ∧ Own w10 w.heap.size T_int l11 (iv ((List.range (n + 1)).map f)) ∧ Fr (At l3) w8 w10 := by
    intro w8 l3 n f ho hs hn z hz w9 h9
    obtain ⟨w10, l11, hr, ho2, hf2, _⟩ := append_one' elInt ho (v := .int .i64 z) rfl (by simp [maxLen]; omega) (by simp; omega) hs h9
    rw [← hz, range_snoc] at ho2
    exact ⟨w10, l11, hr, ho2, hf2⟩
  have elim : ∀ {w8 w10 : World} {l3 : Sl} {xs : List Value}, Own w8 w.heap.size T_int l3 xs → Fr (fun _ => False) w w8 → Fr (At l3) w8 w10 → Fr (fun _ => False) w w10 := fun ho hf hf2 => hf.trans hf2 (fun k hk ⟨y, hy, e⟩ => by have := (ho.blk hy).1; omega)
  refine ⟨fun l i w5 => ∃ n : Nat, i = (n : Int) ∧ n ≤ 288 ∧ Own w5 w.heap.size T_int l (iv ((List.range n).map fun k => (fixN k : Int))) ∧ Fr (fun _ => False) w w5, fun l i w5 => 288 - i.toNat, ⟨0, rfl, by omega, .nil _ _ _, .refl _ _⟩, ?_⟩
  rintro l3 i w5 ⟨n, rfl, hn, ho, hf⟩
  have e3 : IntKind.i64.wrap ((n : Int) + 1) = ((n + 1 : Nat) : Int) := by rw [wrap_i64 (by omega) (by omega)]; omega
  rw [e3]
  refine ⟨fun hlt => ?_, fun hge => ?_⟩
  · have hlt := of_decide_eq_true hlt
    have key : ∀ z : Int, (fixN n : Int) = z → ∀ w9, w9 = w5.alloc (.cells #[.int .i64 z] T_int) →
        ∃ w10 l11, (Builtin.append_ #[T_S_int, T_S_int] T_S_int #[.slice l3.a l3.len l3.cap, .slice (some ⟨w5.heap.size, 0, none⟩) 1 1]).run Try.prog w9 = .ok (.slice l11.a l11.len l11.cap) w10 ∧
          ((∃ m : Nat, ((n + 1 : Nat) : Int) = (m : Int) ∧ m ≤ 288 ∧ Own w10 w.heap.size T_int l11 (iv ((List.range m).map fun k => (fixN k : Int))) ∧ Fr (fun _ => False) w w10) ∧ 288 - (((n + 1 : Nat) : Int)).toNat < 288 - ((n : Int)).toNat) := fun z hz w9 h9 => by
      obtain ⟨w10, l11, hr, ho2, hf2⟩ := step (fun k => (fixN k : Int)) ho hf.size (by omega) z hz w9 h9
      exact ⟨w10, l11, hr, ⟨n + 1, rfl, by omega, ho2, elim ho hf hf2⟩, by omega⟩
    refine ⟨fun c w8 => w8 = w5 ∧ (c = true ↔ (n < 144 ∨ 280 ≤ n)), ⟨fun h1 => ⟨rfl, ?_⟩, fun h1 => ⟨rfl, ?_⟩⟩, ?_⟩
    · have h1' := of_decide_eq_true h1
      rw [h1]; exact ⟨fun _ => by omega, fun _ => rfl⟩
    · have h1' := of_decide_eq_false h1
      rw [decide_eq_true_eq]; omega
    · rintro c w8 ⟨rfl, hc⟩
      refine ⟨fun h1 => ?_, fun h1 => ⟨fun h2 => ?_, fun h2 => ?_⟩⟩
      · exact key 8 (by unfold fixN; rw [if_pos (hc.1 h1)]; rfl)
      · have h2 := of_decide_eq_true h2
        exact key 9 (by unfold fixN; rw [if_neg (fun h => by rw [hc.2 h] at h1; cases h1), if_pos (by omega)]; rfl)
      · have h2 := of_decide_eq_false h2
        exact key 7 (by unfold fixN; rw [if_neg (fun h => by rw [hc.2 h] at h1; cases h1), if_neg (by omega)]; rfl)
  · have hge := of_decide_eq_false hge
    have hn8 : n = 288 := by omega
    have hol : Own w5 w.heap.size T_int l3 (iv (InfM.fixedLit.map Int.ofNat)) := by
      rw [fixedLit_eq, List.map_map]; rw [hn8] at ho; exact ho
    have hll : l3.len = 288 := by rw [ho.len, hn8]; simp
    clear ho
    refine ⟨fun l i w5' => ∃ n : Nat, i = (n : Int) ∧ n ≤ 32 ∧ Own w5' w5.heap.size T_int l (iv ((List.range n).map fun _ => (5 : Int))) ∧ Fr (fun _ => False) w5 w5', fun l i w5 => 32 - i.toNat, ⟨0, rfl, by omega, .nil _ _ _, .refl _ _⟩, ?_⟩
    rintro l20 i w22 ⟨m, rfl, hm, ho, hf2⟩
    have e3 : IntKind.i64.wrap ((m : Int) + 1) = ((m + 1 : Nat) : Int) := by rw [wrap_i64 (by omega) (by omega)]; omega
    rw [e3]
    refine ⟨fun hlt w23 h23 => ?_, fun hge => ?_⟩
    · have hlt := of_decide_eq_true hlt
      obtain ⟨w10, l11, hr, ho2, hf3, _⟩ := append_one' elInt ho (v := .int .i64 5) rfl (by simp [maxLen]; omega) (by simp; omega) hf2.size h23
      rw [range_snoc (fun _ => (5 : Int))] at ho2
      exact ⟨w10, l11, hr, ⟨m + 1, rfl, by omega, ho2, hf2.trans hf3 (fun k hk ⟨y, hy, e⟩ => by have := (ho.blk hy).1; omega)⟩, by dsimp only; omega⟩
    · have hge := of_decide_eq_false hge
      have hm8 : m = 32 := by omega
      have hod : Own w22 w5.heap.size T_int l20 (iv (InfM.fixedDist.map Int.ofNat)) := by
        rw [fixedDist_eq, List.map_map]; rw [hm8] at ho; exact ho
      have hld : l20.len = 32 := by rw [ho.len, hm8]; simp
      have h1 := fixedLit_chk
      have h2 := fixedDist_chk
      have g1 : (InfM.fixedLit.map Int.ofNat).length = 288 := by rw [fixedLit_eq]; simp
      have g2 : (InfM.fixedDist.map Int.ofNat).length = 32 := by rw [fixedDist_eq]; simp
      unfold InfM.chkN at h1 h2
      have t1 : ∀ l : List Nat, (l.map Int.ofNat).map Int.toNat = l := fun l => by simp [List.map_map, Function.comp_def]
      generalize InfM.fixedLit = LL at hol h1 g1 ⊢
      generalize InfM.fixedDist = DD at hod h2 g2 ⊢
      have hol2 := hol.keep hf2 (by simp)
      refine (hnew_spec hol2.reads (n := l3.len) (by rw [hll, g1]) (fun x hx => (hol2.blk hx).2)).mono ?_
      rintro e w27 ⟨⟨hc, rfl⟩ | ⟨hc, lb, rfl, ht⟩, hf27⟩
      · exact absurd h1 hc
      refine ⟨_, _, rfl, ?_⟩
      have hod2 := hod.keep hf27 (by simp)
      refine (hnew_spec hod2.reads (n := l20.len) (by rw [hld, g2]) (fun x hx => (hod2.blk hx).2)).mono ?_
      rintro e w31 ⟨⟨hc', rfl⟩ | ⟨hc', db, rfl, ht2⟩, hf31⟩
      · exact absurd h2 hc'
      rw [t1] at ht ht2
      have z1 := hf.size; have z2 := hf2.size; have z3 := hf27.size; have z4 := hf31.size
      exact ⟨_, _, rfl, lb, db, rfl, (ht.keep hf31 (by simp)).wide (by omega) (by omega), ht2.wide (by omega) (Nat.le_refl _), ((hf.trans' hf2).trans' hf27).trans' hf31⟩
end Go.Proofs.Ytofejgaanpaieaa
