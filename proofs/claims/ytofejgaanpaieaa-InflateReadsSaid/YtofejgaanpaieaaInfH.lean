/- The inflater's run through the blocks. Conditions: the state is in order, and new. -/
import Derived.Test.YtofejgaanpaieaaInfG
set_option linter.unusedVariables false
namespace InfM
open HuffM
theorem take_le {B : List Bool} {n p v p' : Nat} (h : take B n p = .ok (v, p')) : p' = p + n := by
  unfold take at h
  split at h
  · cases h; rfl
  · cases h
theorem sym_le {ls : List Nat} {B : List Bool} {p x p' : Nat} (h : sym ls B p = .ok (x, p')) : p ≤ p' := by
  unfold sym at h
  split at h
  · cases h; omega
  · split at h <;> cases h
theorem firsts_le {B : List Bool} : ∀ (r : List Nat) (p : Nat) (l l' : List Nat) (p' : Nat), firsts B r p l = .ok (l', p') → p ≤ p'
  | [], p, l, l', p', h => by simp only [firsts, Except.ok.injEq, Prod.mk.injEq] at h; omega
  | i :: r, p, l, l', p', h => by
    rw [firsts] at h
    split at h
    · cases h
    · rename_i ht
      have := take_le ht
      have := firsts_le r _ _ _ _ h
      omega
theorem clens_le {cl : List Nat} {tot : Nat} {B : List Bool} : ∀ (f p : Nat) (l l' : List Nat) (p' : Nat), clens cl tot B f p l = .ok (l', p') → p ≤ p'
  | 0, p, l, l', p', h => by cases h
  | f + 1, p, l, l', p', h => by
    rw [clens] at h
    split at h
    · cases h; omega
    split at h
    · cases h
    rename_i s p1 hs
    have h1 := sym_le hs
    split at h
    · have := clens_le f _ _ _ _ h; omega
    split at h
    · cases h
    split at h
    · cases h
    rename_i n p2 ht
    have h2 := take_le ht
    have key : ∀ k what, (if tot < l.length + k then (Except.error 3 : E (List Nat)) else clens cl tot B f p2 (l ++ List.replicate k what)) = .ok (l', p') → p ≤ p' := fun k what h => by
      split at h
      · cases h
      · have := clens_le f _ _ _ _ h; omega
    exact key _ _ h
theorem tables_le {B : List Bool} {p p' : Nat} {x : List Nat × List Nat} (h : tables B p = .ok (x, p')) : p ≤ p' := by
  unfold tables at h
  split at h
  · cases h
  rename_i h1
  have h1 := take_le h1
  simp only at h
  split at h
  · cases h
  split at h
  · cases h
  rename_i h2
  have h2 := firsts_le _ _ _ _ _ h2
  split at h
  · cases h
  split at h
  · cases h
  rename_i h3
  have h3 := clens_le _ _ _ _ _ h3
  split at h
  · cases h
  · cases h; omega
theorem rep_le {dist : List Nat} {most s p p' : Nat} {B : List Bool} {out out' : List UInt8} (h : rep dist most B s p out = .ok (out', p')) : p ≤ p' := by
  unfold rep at h
  split at h
  · cases h
  split at h
  · cases h
  rename_i h1
  have h1 := take_le h1
  split at h
  · cases h
  rename_i h2
  have h2 := sym_le h2
  split at h
  · cases h
  split at h
  · cases h
  rename_i h3
  have h3 := take_le h3
  simp only at h
  split at h
  · cases h
  split at h
  · cases h
  · cases h; omega
theorem stored_le {most p p' : Nat} {B : List Bool} {out out' : List UInt8} (h : stored most B p out = .ok (out', p')) : p ≤ p' := by
  unfold stored at h
  simp only at h
  split at h
  · split at h
    · cases h
    · split at h
      · split at h
        · cases h
        · cases h; omega
      · split at h <;> cases h
  · cases h
end InfM
namespace Go.Proofs.Ytofejgaanpaieaa
open Go Vc BitsM HuffM Go.Proofs

/-- The reader's place, out of its cells. -/
def posOf (w : World) (rb : Nat) : Nat := 8 * cellNat w ⟨rb, 1, none⟩ - cellNat w ⟨rb, 3, none⟩
theorem Rd.posOf {w : World} {rb : Nat} {s : ByteArray} {pos : Nat} {from_ : Int} (h : Rd w rb s pos from_) : posOf w rb = pos := by
  obtain ⟨a, h⟩ := h
  have := h.lo
  unfold Go.Proofs.Ytofejgaanpaieaa.posOf cellNat
  rw [h.c1, h.c3]
  simp; omega
/-- What the run comes to. -/
def RunR (w w' : World) (base0 base b rb : Nat) (s : ByteArray) (off most : Nat) (r : InfM.E (List UInt8)) (err : Int) : Prop :=
  Fr (fun k => base0 ≤ k) w w' ∧ match r with
  | .error e => err = (e : Int) ∧ e ≠ 0
  | .ok (out, p) => err = 0 ∧ ∃ sl', St w' base b rb sl' s off p out most
/-- Behind a block's text. -/
noncomputable def after (most : Nat) (B : List Bool) (f h : Nat) (r : InfM.E (List UInt8)) : InfM.E (List UInt8) := match r with
  | .error e => .error e
  | .ok (out, p) => if h % 2 = 1 then .ok (out, p) else InfM.blocks most B f p out

theorem run_spec {w : World} {base0 base b rb off most : Nat} {sl : Sl} {s : ByteArray} (h : St w base b rb sl s off 0 [] most) (h0b : base0 ≤ b) (h0r : base0 ≤ rb) :
    Calls Try.prog F_inflate_state_run #[.pointer (some ⟨b, 0, none⟩)] w fun e w' =>
      ∃ err : Int, e = .returned (.int .i64 err) ∧ RunR w w' base0 base b rb s off most (InfM.inf most (bitsFrom s off)) err := by
  refine vc_inflate_state_run_ok (R := fun v w' => ∃ err : Int, v = .int .i64 err ∧ RunR w w' base0 base b rb s off most (InfM.inf most (bitsFrom s off)) err) ?_ (fun v w' ⟨e, h⟩ => ⟨e, by rw [h.1], h.2⟩)
  have hBl := bitsFrom_length s off
  generalize hB : bitsFrom s off = B at hBl
  have hN : ∀ {wx : World} {slx : Sl} {p : Nat} {out : List UInt8}, St wx base b rb slx s off p out most → p ≤ B.length ∧ posOf wx rb = 8 * off + p := fun hx => by
    have := hx.le; rw [hx.rd.posOf]; exact ⟨by omega, rfl⟩
  have coarse : ∀ {w1 w2 : World} {slx : Sl} {p : Nat} {out : List UInt8}, St w1 base b rb slx s off p out most → Fr (SX b rb slx) w1 w2 → Fr (fun k => base0 ≤ k) w1 w2 := fun hx hf => hf.mono fun k _ hk => by
    rcases hk with hk | hk | ⟨y, hy, e⟩
    · omega
    · omega
    · have := (hx.own.blk hy).1; have := hx.hb; omega
  have coarseR : ∀ {w1 w2 : World}, Fr (· = rb) w1 w2 → Fr (fun k => base0 ≤ k) w1 w2 := fun hf => hf.mono fun k _ hk => by omega
  obtain ⟨N, hNN⟩ : ∃ N, 8 * off + B.length = N := ⟨_, rfl⟩
  -- what is said at the labels
  let Ib : World → Prop := fun w1 => ∃ f p out sl1, InfM.inf most B = InfM.blocks most B f p out ∧ B.length + 1 ≤ f + p ∧ St w1 base b rb sl1 s off p out most ∧ Fr (fun k => base0 ≤ k) w w1
  let Id : Int → World → Prop := fun hh w1 => ∃ (hd : Nat) (f p : Nat) (out : List UInt8) (sl1 : Sl), hh = (hd : Int) ∧ hd < 8 ∧ InfM.inf most B = after most B f hd (.ok (out, p)) ∧ B.length + 1 ≤ f + p ∧ St w1 base b rb sl1 s off p out most ∧ Fr (fun k => base0 ≤ k) w w1
  let Is : Int → Option Addr → Option Addr → World → Prop := fun hh pl pd w1 => ∃ (hd : Nat) (f g p : Nat) (out : List UInt8) (sl1 : Sl) (ls ds : List Nat) (lb db lo hi : Nat), hh = (hd : Int) ∧ hd < 8 ∧ pl = some ⟨lb, 0, none⟩ ∧ pd = some ⟨db, 0, none⟩ ∧
    InfM.inf most B = after most B f hd (InfM.packed ls ds most B g p out) ∧ B.length + 1 ≤ f + p ∧ B.length + 1 ≤ g + p ∧ Tab w1 lo hi lb ls ∧ Tab w1 lo hi db ds ∧ rb < lo ∧ b < lo ∧ (∀ y, sl1.a = some y → y.block < lo ∨ hi ≤ y.block) ∧ hi ≤ w1.heap.size ∧
    St w1 base b rb sl1 s off p out most ∧ Fr (fun k => base0 ≤ k) w w1
  let Mb : World → Nat := fun w1 => 3 * (N - posOf w1 rb) + 1
  let Md : Int → World → Nat := fun _ w1 => 3 * (N - posOf w1 rb) + 2
  let Ms : Int → Option Addr → Option Addr → World → Nat := fun _ _ _ w1 => 3 * (N - posOf w1 rb)
  refine ⟨Ib, Mb, Id, Md, Is, Ms, ?_, fun w1 hI => ?_, ?_, ?_, trivial⟩
  · have hI : Ib w := ⟨B.length + 1, 0, [], sl, rfl, by omega, h, .refl _ _⟩
    obtain ⟨f, p, out, sl1, hres, hfp, h1, hf1⟩ := hI
    obtain ⟨f, rfl⟩ : ∃ g, f = g + 1 := ⟨f - 1, by have := (hN h1).1; omega⟩
    rw [InfM.blocks] at hres
    refine ⟨_, h1.c0, ?_⟩
    refine (stbits_spec h1 (n := 3) (by omega)).mono ?_
    rw [hB]
    rintro e w2 ⟨hf2, ⟨hd, p2, htk, hhd, hp2, rfl, h2⟩ | ⟨htk, rfl⟩⟩
    rotate_left
    · rw [htk] at hres
      rw [hres]
      exact ⟨_, _, rfl, fun _ => ⟨6, rfl, hf1.trans' (coarseR hf2), rfl, by decide⟩, fun hh => by cases hh⟩
    rw [htk] at hres
    replace hres : InfM.inf most B = after most B f hd (InfM.block most B (hd / 2) p2 out) := hres
    have hf2' := hf1.trans' (coarseR hf2)
    have e1 : Int.fdiv (hd : Int) (2 ^ min (Int.toNat 1) 32) = ((hd / 2 : Nat) : Int) := by
      rw [show (2 : Int) ^ min (Int.toNat 1) 32 = ((2 : Nat) : Int) from rfl, Int.fdiv_eq_ediv_of_nonneg _ (Int.natCast_nonneg _), ← Int.natCast_ediv]
    refine ⟨_, _, rfl, fun hh => (by cases hh), fun _ => ⟨by decide, ?_⟩⟩
    rw [e1]
    have hpos1 := (hN h1).2
    have hpos2 := (hN h2).2
    have hle2 := (hN h2).1
    refine ⟨fun hk0 => ?_, fun hk0 => ⟨fun hk1 => ?_, fun hk1 => ⟨fun hk2 => ?_, fun hk2 => ?_⟩⟩⟩
    · have hk0 : hd / 2 = 0 := by have := eq_of_beq hk0; omega
      rw [InfM.block, if_pos hk0] at hres
      refine (stored_spec h2).mono ?_
      rw [hB]
      rintro e w3 ⟨err, rfl, hf3, hr3⟩
      have hf3' := hf2'.trans' (coarse h2 hf3)
      cases hst : InfM.stored most B p2 out with
      | error er =>
        rw [hst] at hr3 hres
        obtain ⟨rfl, hne⟩ := hr3
        replace hres : InfM.inf most B = .error er := hres
        rw [hres]
        refine ⟨_, rfl, fun _ => ⟨_, rfl, hf3', rfl, hne⟩, fun hh => ?_⟩
        exact absurd hh (by simpa using hne)
      | ok x =>
        obtain ⟨out3, p3⟩ := x
        rw [hst] at hr3 hres
        obtain ⟨rfl, sl3, h3, _⟩ := hr3
        have hle3 := InfM.stored_le hst
        obtain ⟨hpos3, hpos3'⟩ := hN h3
        refine ⟨_, rfl, fun hh => (by simp at hh), fun _ => ?_⟩
        have hId : Id (hd : Int) w3 := ⟨hd, f, p3, out3, sl3, rfl, by omega, hres, by omega, h3, hf3'⟩
        exact hId
    · have hk0 : hd / 2 ≠ 0 := fun hh => by rw [hh] at hk0; simp at hk0
      have hk1 : hd / 2 = 1 := by have := eq_of_beq hk1; omega
      rw [InfM.block, if_neg hk0, if_pos hk1] at hres
      refine (fixed_spec w2).mono ?_
      rintro e w3 ⟨lb, db, rfl, ht1, ht2, hf3⟩
      have h3 := h2.keep hf3 (by simp)
      have hpos3' := (hN h3).2
      refine ⟨_, _, rfl, ?_⟩
      have hIs : Is (hd : Int) (some ⟨lb, 0, none⟩) (some ⟨db, 0, none⟩) w3 := ⟨hd, f, B.length + 1, p2, out, sl1, _, _, lb, db, w2.heap.size, w3.heap.size, rfl, by omega, rfl, rfl, hres, by omega, by omega, ht1, ht2, h2.lts.2.1, h2.lts.1, fun y hy => .inl (h2.lts.2.2 y hy), Nat.le_refl _, h3, hf2'.trans' (hf3.mono fun k _ hk => hk.elim)⟩
      exact hIs
    · have hk0 : hd / 2 ≠ 0 := fun hh => by rw [hh] at hk0; simp at hk0
      have hk1 : hd / 2 ≠ 1 := fun hh => by rw [hh] at hk1; simp at hk1
      have hk2 : hd / 2 = 2 := by have := eq_of_beq hk2; omega
      rw [InfM.block, if_neg hk0, if_neg hk1, if_pos hk2] at hres
      refine (tables_spec h2).mono ?_
      rw [hB]
      rintro e w3 ⟨v, rfl, hf3, hr3⟩
      cases htb : InfM.tables B p2 with
      | error er =>
        rw [htb] at hr3 hres
        obtain ⟨rfl, hne⟩ := hr3
        replace hres : InfM.inf most B = .error er := hres
        rw [hres]
        refine ⟨_, _, _, rfl, fun _ => ⟨_, rfl, hf2'.trans' (coarseR hf3), rfl, hne⟩, fun hh => ?_⟩
        exact absurd hh (by simpa using hne)
      | ok x =>
        obtain ⟨⟨lit, dist⟩, p3⟩ := x
        rw [htb] at hr3 hres
        obtain ⟨lb, db, rfl, ht1, ht2, h3⟩ := hr3
        have hle3 := InfM.tables_le htb
        obtain ⟨hpos3, hpos3'⟩ := hN h3
        refine ⟨_, _, _, rfl, fun hh => (by simp at hh), fun _ => ?_⟩
        have hIs : Is (hd : Int) (some ⟨lb, 0, none⟩) (some ⟨db, 0, none⟩) w3 := ⟨hd, f, B.length + 1, p3, out, sl1, _, _, lb, db, w2.heap.size, w3.heap.size, rfl, by omega, rfl, rfl, hres, by omega, by omega, ht1, ht2, h2.lts.2.1, h2.lts.1, fun y hy => .inl (h2.lts.2.2 y hy), Nat.le_refl _, h3, hf2'.trans' (coarseR hf3)⟩
        exact hIs
    · have hk0 : hd / 2 ≠ 0 := fun hh => by rw [hh] at hk0; simp at hk0
      have hk1 : hd / 2 ≠ 1 := fun hh => by rw [hh] at hk1; simp at hk1
      have hk2 : hd / 2 ≠ 2 := fun hh => by rw [hh] at hk2; simp at hk2
      rw [InfM.block, if_neg hk0, if_neg hk1, if_neg hk2] at hres
      replace hres : InfM.inf most B = .error 3 := hres
      rw [hres]
      exact ⟨3, rfl, hf2', rfl, by decide⟩
  · obtain ⟨f, p, out, sl1, hres, hfp, h1, hf1⟩ := hI
    obtain ⟨f, rfl⟩ : ∃ g, f = g + 1 := ⟨f - 1, by have := (hN h1).1; omega⟩
    rw [InfM.blocks] at hres
    refine ⟨_, h1.c0, ?_⟩
    refine (stbits_spec h1 (n := 3) (by omega)).mono ?_
    rw [hB]
    rintro e w2 ⟨hf2, ⟨hd, p2, htk, hhd, hp2, rfl, h2⟩ | ⟨htk, rfl⟩⟩
    rotate_left
    · rw [htk] at hres
      rw [hres]
      exact ⟨_, _, rfl, fun _ => ⟨6, rfl, hf1.trans' (coarseR hf2), rfl, by decide⟩, fun hh => by cases hh⟩
    rw [htk] at hres
    replace hres : InfM.inf most B = after most B f hd (InfM.block most B (hd / 2) p2 out) := hres
    have hf2' := hf1.trans' (coarseR hf2)
    have e1 : Int.fdiv (hd : Int) (2 ^ min (Int.toNat 1) 32) = ((hd / 2 : Nat) : Int) := by
      rw [show (2 : Int) ^ min (Int.toNat 1) 32 = ((2 : Nat) : Int) from rfl, Int.fdiv_eq_ediv_of_nonneg _ (Int.natCast_nonneg _), ← Int.natCast_ediv]
    refine ⟨_, _, rfl, fun hh => (by cases hh), fun _ => ⟨by decide, ?_⟩⟩
    rw [e1]
    have hpos1 := (hN h1).2
    have hpos2 := (hN h2).2
    have hle2 := (hN h2).1
    refine ⟨fun hk0 => ?_, fun hk0 => ⟨fun hk1 => ?_, fun hk1 => ⟨fun hk2 => ?_, fun hk2 => ?_⟩⟩⟩
    · have hk0 : hd / 2 = 0 := by have := eq_of_beq hk0; omega
      rw [InfM.block, if_pos hk0] at hres
      refine (stored_spec h2).mono ?_
      rw [hB]
      rintro e w3 ⟨err, rfl, hf3, hr3⟩
      have hf3' := hf2'.trans' (coarse h2 hf3)
      cases hst : InfM.stored most B p2 out with
      | error er =>
        rw [hst] at hr3 hres
        obtain ⟨rfl, hne⟩ := hr3
        replace hres : InfM.inf most B = .error er := hres
        rw [hres]
        refine ⟨_, rfl, fun _ => ⟨_, rfl, hf3', rfl, hne⟩, fun hh => ?_⟩
        exact absurd hh (by simpa using hne)
      | ok x =>
        obtain ⟨out3, p3⟩ := x
        rw [hst] at hr3 hres
        obtain ⟨rfl, sl3, h3, _⟩ := hr3
        have hle3 := InfM.stored_le hst
        obtain ⟨hpos3, hpos3'⟩ := hN h3
        refine ⟨_, rfl, fun hh => (by simp at hh), fun _ => ?_⟩
        have hId : Id (hd : Int) w3 := ⟨hd, f, p3, out3, sl3, rfl, by omega, hres, by omega, h3, hf3'⟩
        exact ⟨hId, by dsimp only [Md, Mb]; omega⟩
    · have hk0 : hd / 2 ≠ 0 := fun hh => by rw [hh] at hk0; simp at hk0
      have hk1 : hd / 2 = 1 := by have := eq_of_beq hk1; omega
      rw [InfM.block, if_neg hk0, if_pos hk1] at hres
      refine (fixed_spec w2).mono ?_
      rintro e w3 ⟨lb, db, rfl, ht1, ht2, hf3⟩
      have h3 := h2.keep hf3 (by simp)
      have hpos3' := (hN h3).2
      refine ⟨_, _, rfl, ?_⟩
      have hIs : Is (hd : Int) (some ⟨lb, 0, none⟩) (some ⟨db, 0, none⟩) w3 := ⟨hd, f, B.length + 1, p2, out, sl1, _, _, lb, db, w2.heap.size, w3.heap.size, rfl, by omega, rfl, rfl, hres, by omega, by omega, ht1, ht2, h2.lts.2.1, h2.lts.1, fun y hy => .inl (h2.lts.2.2 y hy), Nat.le_refl _, h3, hf2'.trans' (hf3.mono fun k _ hk => hk.elim)⟩
      exact ⟨hIs, by dsimp only [Ms, Mb]; omega⟩
    · have hk0 : hd / 2 ≠ 0 := fun hh => by rw [hh] at hk0; simp at hk0
      have hk1 : hd / 2 ≠ 1 := fun hh => by rw [hh] at hk1; simp at hk1
      have hk2 : hd / 2 = 2 := by have := eq_of_beq hk2; omega
      rw [InfM.block, if_neg hk0, if_neg hk1, if_pos hk2] at hres
      refine (tables_spec h2).mono ?_
      rw [hB]
      rintro e w3 ⟨v, rfl, hf3, hr3⟩
      cases htb : InfM.tables B p2 with
      | error er =>
        rw [htb] at hr3 hres
        obtain ⟨rfl, hne⟩ := hr3
        replace hres : InfM.inf most B = .error er := hres
        rw [hres]
        refine ⟨_, _, _, rfl, fun _ => ⟨_, rfl, hf2'.trans' (coarseR hf3), rfl, hne⟩, fun hh => ?_⟩
        exact absurd hh (by simpa using hne)
      | ok x =>
        obtain ⟨⟨lit, dist⟩, p3⟩ := x
        rw [htb] at hr3 hres
        obtain ⟨lb, db, rfl, ht1, ht2, h3⟩ := hr3
        have hle3 := InfM.tables_le htb
        obtain ⟨hpos3, hpos3'⟩ := hN h3
        refine ⟨_, _, _, rfl, fun hh => (by simp at hh), fun _ => ?_⟩
        have hIs : Is (hd : Int) (some ⟨lb, 0, none⟩) (some ⟨db, 0, none⟩) w3 := ⟨hd, f, B.length + 1, p3, out, sl1, _, _, lb, db, w2.heap.size, w3.heap.size, rfl, by omega, rfl, rfl, hres, by omega, by omega, ht1, ht2, h2.lts.2.1, h2.lts.1, fun y hy => .inl (h2.lts.2.2 y hy), Nat.le_refl _, h3, hf2'.trans' (coarseR hf3)⟩
        exact ⟨hIs, by dsimp only [Ms, Mb]; omega⟩
    · have hk0 : hd / 2 ≠ 0 := fun hh => by rw [hh] at hk0; simp at hk0
      have hk1 : hd / 2 ≠ 1 := fun hh => by rw [hh] at hk1; simp at hk1
      have hk2 : hd / 2 ≠ 2 := fun hh => by rw [hh] at hk2; simp at hk2
      rw [InfM.block, if_neg hk0, if_neg hk1, if_neg hk2] at hres
      replace hres : InfM.inf most B = .error 3 := hres
      rw [hres]
      exact ⟨3, rfl, hf2', rfl, by decide⟩
  · rintro hh w1 ⟨hd, f, p, out, sl1, rfl, hd8, hres, hfp, h1, hf1⟩
    have e1 : IntKind.u32.wrap (((BitVec.ofInt 32 (hd : Int) &&& BitVec.ofInt 32 1).toNat : Nat) : Int) = ((hd % 2 : Nat) : Int) := by
      have := and_nat 32 hd 1 (by omega) (by decide)
      rw [show ((1 : Nat) : Int) = 1 from rfl, show hd &&& 1 = hd % 2 from and_mask hd 1] at this
      rw [this, wrap_u32 (by omega) (by omega)]
    rw [e1]
    simp only [after] at hres
    refine ⟨fun h0 => ?_, fun h0 => ?_⟩
    · have h0 : hd % 2 = 0 := by have := eq_of_beq h0; omega
      rw [if_neg (by omega)] at hres
      exact ⟨⟨f, p, out, sl1, hres, hfp, h1, hf1⟩, by dsimp only [Md, Mb]; omega⟩
    · have h0 : hd % 2 ≠ 0 := fun hh => by rw [hh] at h0; simp at h0
      rw [if_pos (by omega)] at hres
      rw [hres]
      exact ⟨0, rfl, hf1, rfl, sl1, h1⟩
  · rintro hh pl pd w1 ⟨hd, f, g, p, out, sl1, ls, ds, lb, db, lo, hi, rfl, hd8, rfl, rfl, hres, hfp, hgp, ht1, ht2, hrlo, hblo, hslo, hhi, h1, hf1⟩
    obtain ⟨g, rfl⟩ : ∃ g', g = g' + 1 := ⟨g - 1, by have := (hN h1).1; omega⟩
    rw [InfM.packed] at hres
    refine ⟨_, h1.c0, ?_⟩
    refine (stread_spec h1 ht1 (.inl hrlo)).mono ?_
    rw [hB]
    have hpos1 := (hN h1).2
    rintro e w2 ⟨hf2, ⟨x, p2, hsy, hp2, hx, rfl, h2⟩ | ⟨err, hsy, hne, rfl⟩⟩
    rotate_left
    · rw [hsy] at hres
      replace hres : InfM.inf most B = .error err := hres
      rw [hres]
      refine ⟨_, _, rfl, fun _ => ⟨err, rfl, hf1.trans' (coarseR hf2), rfl, hne⟩, fun hh => ?_⟩
      exact absurd hh (by simpa using hne)
    rw [hsy] at hres
    simp only at hres
    have hf2' := hf1.trans' (coarseR hf2)
    obtain ⟨hle2, hpos2⟩ := hN h2
    have hsm := ht1.small
    have ht1' := ht1.keep hf2 (fun k a b hk => by omega)
    have ht2' := ht2.keep hf2 (fun k a b hk => by omega)
    have hs2 := hf2.size
    have nsx : ∀ k, lo ≤ k → k < hi → ¬ SX b rb sl1 k := fun k a c hk => by
      rcases hk with hk | hk | ⟨y, hy, e⟩
      · omega
      · omega
      · have := hslo y hy; omega
    have more : ∀ {w3 : World} {sl3 : Sl} {p3 : Nat} {out3 : List UInt8}, p2 ≤ p3 → Fr (SX b rb sl1) w2 w3 → St w3 base b rb sl3 s off p3 out3 most → Since w2 sl1 sl3 → InfM.inf most B = after most B f hd (InfM.packed ls ds most B g p3 out3) →
        Is (hd : Int) (some ⟨lb, 0, none⟩) (some ⟨db, 0, none⟩) w3 ∧ Ms (hd : Int) (some ⟨lb, 0, none⟩) (some ⟨db, 0, none⟩) w3 < Ms (hd : Int) (some ⟨lb, 0, none⟩) (some ⟨db, 0, none⟩) w1 := by
      intro w3 sl3 p3 out3 hp3 hf3 h3 hs3 hres3
      obtain ⟨hle3, hpos3⟩ := hN h3
      have := hf3.size
      refine ⟨⟨hd, f, g, p3, out3, sl3, ls, ds, lb, db, lo, hi, rfl, hd8, rfl, rfl, hres3, by omega, by omega, ht1'.keep hf3 nsx, ht2'.keep hf3 nsx, hrlo, hblo, fun y hy => ?_, by omega, h3, hf2'.trans' (coarse h2 hf3)⟩, by dsimp only [Ms]; omega⟩
      rcases hs3 y hy with ⟨z, hz, e⟩ | hn
      · have := hslo z hz; omega
      · exact .inr (by omega)
    refine ⟨_, _, rfl, fun hh => (by simp at hh), fun _ => ⟨fun h256 => ?_, fun hn256 => ⟨fun hlt => ?_, fun hge => ?_⟩⟩⟩
    · have h256 : x = 256 := by have := eq_of_beq h256; omega
      rw [if_pos h256] at hres
      exact ⟨⟨hd, f, p2, out, sl1, rfl, hd8, hres, by omega, h2, hf2'⟩, by dsimp only [Md, Ms]; omega⟩
    · have hlt := of_decide_eq_true hlt
      have hlt : x < 256 := by omega
      rw [if_neg (by omega), if_pos hlt] at hres
      rw [wrap_u8 (by omega) (by omega)]
      refine (put_spec h2 hlt).mono ?_
      rintro e w3 ⟨err, rfl, hf3, hr3⟩
      by_cases hfull : out.length = most
      · rw [if_pos hfull] at hr3 hres
        obtain ⟨rfl, _⟩ := hr3
        replace hres : InfM.inf most B = .error 2 := hres
        rw [hres]
        exact ⟨_, rfl, fun hz => (by simp at hz), fun _ => ⟨2, rfl, hf2'.trans' (coarse h2 hf3), rfl, by decide⟩⟩
      · rw [if_neg hfull] at hr3 hres
        obtain ⟨rfl, sl3, h3, hs3⟩ := hr3
        exact ⟨_, rfl, fun _ => more (Nat.le_refl _) hf3 h3 hs3 hres, fun hz => (by simp at hz)⟩
    · have hge := of_decide_eq_false hge
      have hn256 : x ≠ 256 := fun hh => by subst hh; simp at hn256
      rw [if_neg hn256, if_neg (by omega)] at hres
      refine (repeat_spec h2 ht2' (.inl hrlo) (by omega) (by omega)).mono ?_
      rw [hB]
      rintro e w3 ⟨err, rfl, hf3, hr3⟩
      cases hrp : InfM.rep ds most B x p2 out with
      | error er =>
        rw [hrp] at hr3 hres
        obtain ⟨rfl, hne⟩ := hr3
        replace hres : InfM.inf most B = .error er := hres
        rw [hres]
        refine ⟨_, rfl, fun hz => ?_, fun _ => ⟨_, rfl, hf2'.trans' (coarse h2 hf3), rfl, hne⟩⟩
        exact absurd hz (by simpa using hne)
      | ok y =>
        obtain ⟨out3, p3⟩ := y
        rw [hrp] at hr3 hres
        obtain ⟨rfl, sl3, h3, hs3⟩ := hr3
        exact ⟨_, rfl, fun _ => more (InfM.rep_le hrp) hf3 h3 hs3 hres, fun hz => (by simp at hz)⟩
end Go.Proofs.Ytofejgaanpaieaa
