/- The lexer's next token. Conditions: as named. -/
import Derived.Test.YtmhlmdnhpfhoeaaDoorModC
set_option linter.unusedVariables false
namespace Go.Proofs.YtmhlmdnhpfhoeaaDoor
open Go Vc Go.Proofs

theorem slashes_pre (s : ByteArray) (p : Nat) : begB (s.extract p s.size) ⟨#[47, 47]⟩ = slashes (s.data.toList.drop p) := by
  unfold begB
  rw [bs_tail]
  generalize s.data.toList.drop p = l
  show decide ([47, 47] <+: l) = _
  match l with
  | [] => rfl
  | [a] => simp [slashes]
  | a :: b :: r =>
    have e : ([47, 47] <+: a :: b :: r) ↔ (47 = a ∧ 47 = b) := by rw [List.cons_prefix_cons, List.cons_prefix_cons]; simp
    unfold slashes
    rw [Bool.eq_iff_iff]
    simp only [decide_eq_true_eq, Bool.and_eq_true, beq_iff_eq, e]
    exact ⟨fun h => ⟨h.1.symm, h.2.symm⟩, fun h => ⟨h.1.symm, h.2.symm⟩⟩
theorem stop_at (n : Nat) (hn : n < 256) : (Lib.indexByte [32, 9, 13, 10, 40, 41, 34, 96] (UInt8.ofNat n) < 0 → isStop (UInt8.ofNat n) = false) ∧ (¬ Lib.indexByte [32, 9, 13, 10, 40, 41, 34, 96] (UInt8.ofNat n) < 0 → isStop (UInt8.ofNat n) = true) := by
  have key : ∀ n : Fin 256, (Lib.indexByte [32, 9, 13, 10, 40, 41, 34, 96] (UInt8.ofNat n) < 0 → isStop (UInt8.ofNat n) = false) ∧ (¬ Lib.indexByte [32, 9, 13, 10, 40, 41, 34, 96] (UInt8.ofNat n) < 0 → isStop (UInt8.ofNat n) = true) := by
    decide +kernel
  exact key ⟨n, hn⟩
structure NS (w : World) (b : Nat) (s : ByteArray) (p line r : Nat) : Prop where
  lx : LxAt w b s p line
  tg : TkAt w (r + 1) 0 ⟨#[]⟩ line
  tr : TkAt w r 0 ⟨#[]⟩ 0
  hb : b < r
section
variable {w w2 : World} {b p line r : Nat} {s : ByteArray}
theorem NS.drew (h : NS w b s p line r) (d : Drew w w2) : NS w2 b s p line r := ⟨h.lx.drew d, h.tg.drew d, h.tr.drew d, h.hb⟩
theorem NS.step (h : NS w b s p line r) (hi : p < s.size) : NS (w.setCell ⟨b, 1, none⟩ (.int .i64 (IntKind.i64.wrap ((p : Int) + 1)))) b s (p + 1) line r := by
  have hf := Fr.set (· = b) w (a := ⟨b, 1, none⟩) (.int .i64 (IntKind.i64.wrap ((p : Int) + 1))) rfl
  have := h.hb
  exact ⟨h.lx.step hi, h.tg.keep hf (by omega), h.tr.keep hf (by omega), h.hb⟩
end
def sk (s : ByteArray) (p : Nat) : Nat := 2 * (s.size - p) + (if s.size ≤ p ∨ byt s p = 10 then 0 else 2)
theorem sk_le (s : ByteArray) (p : Nat) : sk s p ≤ 2 * (s.size - p) + 2 := by unfold sk; split <;> omega
theorem sk_eq {s : ByteArray} {p : Nat} (h : p < s.size) (hn : byt s p ≠ 10) : sk s p = 2 * (s.size - p) + 2 := by
  unfold sk; rw [if_neg (fun e => by rcases e with e | e; omega; exact hn e)]
theorem sk_end {s : ByteArray} {p : Nat} (h : s.size ≤ p ∨ byt s p = 10) : sk s p = 2 * (s.size - p) := by
  unfold sk; rw [if_pos h]; rfl
theorem fin_next {wk w0 : World} {b j line' r : Nat} {s t t' : ByteArray} {k n k' n' : Int} (hl : LxAt wk b s j line') (hk : TkAt wk (r + 1) k t n) (hr : TkAt wk r k' t' n') (hbr : b < r) (h0 : w0.heap.size = r) (hf : Fr (· = b) w0 wk) {Q : Int → ByteArray → Int → World → Prop}
    (hQ : ∀ w', LxAt w' b s j line' → Fr (· = b) w0 w' → Q k t n w') :
    ∃ n1 : Int, ∃ s1 : ByteArray, ∃ n2 : Int, (loadVar T_modfile_token ⟨r + 1, 0, none⟩).run Tryd.prog wk = .ok (.agg #[.int .i64 n1, .string s1, .int .i64 n2]) wk ∧
      ∃ w', (storeVar T_modfile_token ⟨r, 0, none⟩ (.agg #[.int .i64 n1, .string s1, .int .i64 n2])).run Tryd.prog wk = .ok PUnit.unit w' ∧
      ∃ n3 : Int, ∃ s2 : ByteArray, ∃ n4 : Int, (loadVar T_modfile_token ⟨r, 0, none⟩).run Tryd.prog w' = .ok (.agg #[.int .i64 n3, .string s2, .int .i64 n4]) w' ∧ Q n3 s2 n4 w' :=
  fin_tok hk hr fun w' h3 h4 => hQ w' (hl.keep h4 (by omega)) (hf.trans h4 fun q hq e => by omega)
/-- What 'next' tells. -/
def NR (w w' : World) (b : Nat) (s : ByteArray) (i line : Nat) (Z : Option (Nat × List UInt8 × List UInt8)) (v : Value) : Prop :=
  Fr (· = b) w w' ∧ ((Z = none ∧ ∃ k t, v = .tuple #[.agg #[.int .i64 k, .string t, .int .i64 (line : Int)], .bool false]) ∨
    ∃ k x r j, Z = some (k, x, r) ∧ v = .tuple #[.agg #[.int .i64 (k : Int), .string ⟨x.toArray⟩, .int .i64 (line : Int)], .bool true] ∧ LxAt w' b s j (if k = 3 then line + 1 else line) ∧ s.data.toList.drop j = r ∧ i ≤ j)
theorem ext_cat {s : ByteArray} {f p : Nat} (hfp : f ≤ p) (hp : p ≤ s.size) : (s.data.toList.drop f).take (p - f) = (s.extract f p).data.toList := by rw [bs_extract]
theorem take_snoc {s : ByteArray} {f p : Nat} (hfp : f ≤ p) (hp : p < s.size) : (s.data.toList.drop f).take (p + 1 - f) = (s.data.toList.drop f).take (p - f) ++ [UInt8.ofNat (byt s p)] := by
  have hl : p - f < (s.data.toList.drop f).length := by rw [List.length_drop, bs_len]; omega
  rw [show p + 1 - f = p - f + 1 by omega, List.take_succ_eq_append_getElem hl]
  congr 2
  have := bs_get hp
  rw [List.getElem_drop]
  have h2 : s.data.toList[p]? = some (s.data.toList[f + (p - f)]'(by rw [bs_len]; omega)) := by
    rw [List.getElem?_eq_getElem (by rw [bs_len]; omega)]
    congr 2; omega
  rw [h2] at this
  exact Option.some.inj this
theorem next_spec {w : World} {b : Nat} {s : ByteArray} {i line : Nat} (h : LxAt w b s i line) :
    Calls Tryd.prog F_modfile_lexer_next #[.pointer (some ⟨b, 0, none⟩)] w fun e w' => ∃ v, e = .returned v ∧ NR w w' b s i line (nextL (s.data.toList.drop i)) v := by
  refine vc_modfile_lexer_next_ok (R := fun v w' => NR w w' b s i line (nextL (s.data.toList.drop i)) v) ?_ (fun v w' h => ⟨v, rfl, h⟩)
  intro w1 h1
  have hb : b < w.heap.size := lt_blk h.blk
  have hs1 : w1.heap.size = w.heap.size + 1 := by rw [h1]; simp
  have hf1 : Fr (fun _ => False) w w1 := by rw [h1]; exact .alloc _ _ _
  have htr : TkAt w1 w.heap.size 0 ⟨#[]⟩ 0 := by rw [h1]; exact alloc_new _ _
  rw [hs1]
  generalize hZ : nextL (s.data.toList.drop i) = Z
  generalize hg : w.heap.size = r at *
  let I2 : Addr → World → Prop := fun a w' => a = ⟨r + 1, 0, none⟩ ∧ ∃ p, NS w' b s p line r ∧ i ≤ p ∧ Fr (· = b) w w' ∧ Z = nextL (s.data.toList.drop p)
  let I4 : Addr → World → Prop := fun a w' => a = ⟨r + 1, 0, none⟩ ∧ ∃ p, NS w' b s p line r ∧ i ≤ p ∧ Fr (· = b) w w' ∧ Z = some (endL (commentL (s.data.toList.drop p)))
  let I6 : Int → Addr → World → Prop := fun z a w' => a = ⟨r + 1, 0, none⟩ ∧ ∃ f p : Nat, z = f ∧ f ≤ p ∧ NS w' b s p line r ∧ i ≤ p ∧ Fr (· = b) w w' ∧ Z = (rawL (s.data.toList.drop p)).map fun x => (0, (s.data.toList.drop f).take (p - f) ++ x.1, x.2)
  let I8 : Int → Addr → World → Prop := fun z a w' => a = ⟨r + 1, 0, none⟩ ∧ ∃ f p : Nat, z = f ∧ f ≤ p ∧ NS w' b s p line r ∧ i ≤ p ∧ Fr (· = b) w w' ∧ Z = some (0, (s.data.toList.drop f).take (p - f) ++ (bareL (s.data.toList.drop p)).1, (bareL (s.data.toList.drop p)).2)
  let P : World → Nat := fun w' => cellN w' ⟨b, 1, none⟩
  have hP : ∀ {w' : World} {p : Nat}, NS w' b s p line r → P w' = p := fun h => cellN_of h.lx.c1
  refine ⟨I2, fun _ w' => sk s (P w'), I4, fun _ w' => 2 * (s.size - P w') + 1, I6, fun _ _ w' => 2 * (s.size - P w'), I8, fun _ _ w' => 2 * (s.size - P w') + 1, ⟨_, (h.keep hf1 (by simp)).c2, ?entry⟩, ?skip, ?com, ?raw, ?bare, trivial⟩
  case com =>
    rintro a wl ⟨rfl, p, hq, hip, hfl, hZp⟩
    have hple := hq.lx.hi
    refine ⟨fun w' => NS w' b s p line r ∧ Fr (· = b) w w' ∧ (s.size ≤ p ∨ byt s p = 10), ⟨_, hq.lx.c1, _, hq.lx.c0, fun hlt => ⟨_, hq.lx.c0, _, hq.lx.c1, ⟨by omega, by have := of_decide_eq_true hlt; omega⟩, fun w15 d15 => ⟨fun h10 => ?_, fun h10 => ?_⟩⟩, fun hge w15 d15 => ⟨hq.drew d15, hfl.trans' (.drew _ d15), .inl (by have := of_decide_eq_false hge; omega)⟩⟩, ?_⟩
    · have hp : p < s.size := by have := of_decide_eq_true hlt; omega
      have hq15 := hq.drew d15
      refine ⟨_, hq15.lx.c1, hq15.lx.wr1, fun w31 h31 => ?_⟩
      have hq31 := hq15.step hp
      rw [← h31] at hq31
      rw [drop_at hp, commentL, if_neg (byt_not 10 (by simpa using h10))] at hZp
      exact ⟨⟨rfl, p + 1, hq31, by omega, (hfl.trans' (.drew _ d15)).trans' (by rw [h31]; exact .set _ _ _ rfl), hZp⟩, by dsimp only; rw [hP hq31, hP hq]; omega⟩
    · refine ⟨hq.drew d15, hfl.trans' (.drew _ d15), .inr ?_⟩
      rw [byteAt_nat] at h10
      have := of_decide_eq_true (p := ((byt s p : Int) = 10)) (by simpa using h10)
      omega
    · rintro w31 ⟨hq31, hf31, hend⟩
      refine ⟨fun _ => False, ⟨⟨rfl, p, hq31, hip, hf31, ?_⟩, by dsimp only; rw [hP hq31, hP hq, sk_end hend]; omega⟩, fun _ h => h.elim⟩
      rw [hZp]
      by_cases hp : p < s.size
      · have h10 : byt s p = 10 := hend.elim (fun h => by omega) id
        rw [drop_at hp, h10]
        rfl
      · rw [show p = s.size by omega, drop_end]
        rfl
  case raw =>
    rintro z a wl ⟨rfl, f, p, rfl, hfp, hq, hip, hfl, hZp⟩
    have hple := hq.lx.hi
    refine ⟨fun w' => w' = wl, rfl, fun w' hw => ?_⟩
    subst hw
    refine ⟨_, hq.lx.c1, _, hq.lx.c0, fun he w15 d15 => ?_, fun hne => ⟨_, hq.lx.c0, _, hq.lx.c1, ⟨by omega, by have := hq.lx.lt hne; omega⟩, fun w15 d15 => ?_⟩⟩
    · have hpe : p = s.size := by have := eq_of_beq he; omega
      subst hpe
      rw [drop_end, rawL] at hZp
      have hq15 := hq.drew d15
      exact fin_next hq15.lx hq15.tg hq15.tr hb hg (hfl.trans' (.drew _ d15)) fun w' hl' hf' => ⟨hf', .inl ⟨hZp, _, _, rfl⟩⟩
    have hp := hq.lx.lt hne
    have hq15 := hq.drew d15
    rw [drop_at hp, rawL] at hZp
    refine ⟨fun h10 => ?_, fun h10 => ⟨_, hq15.lx.c0, _, hq15.lx.c1, ⟨by omega, by omega⟩, fun w16 d16 => ⟨fun h96 => ?_, fun h96 w17 d17 => ?_⟩⟩⟩
    · rw [if_pos (byt_is 10 h10)] at hZp
      exact fin_next hq15.lx hq15.tg hq15.tr hb hg (hfl.trans' (.drew _ d15)) fun w' hl' hf' => ⟨hf', .inl ⟨hZp, _, _, rfl⟩⟩
    · have hq16 := hq15.drew d16
      refine ⟨_, hq16.lx.c1, hq16.lx.wr1, fun w31 h31 => ?_⟩
      have hq31 := hq16.step hp
      rw [← h31] at hq31
      rw [if_neg (byt_not 10 h10), if_neg (byt_not 96 (by simpa using h96))] at hZp
      refine ⟨⟨rfl, f, p + 1, rfl, by omega, hq31, by omega, (hfl.trans' (.drew _ (d15.trans d16))).trans' (by rw [h31]; exact .set _ _ _ rfl), ?_⟩, by dsimp only; rw [hP hq31, hP hq]; omega⟩
      rw [hZp, take_snoc hfp hp]
      cases rawL (s.data.toList.drop (p + 1)) <;> simp
    · rw [if_neg (byt_not 10 h10), if_pos (byt_is 96 (by simpa using h96))] at hZp
      have hq17 := hq15.drew (d16.trans d17)
      refine ⟨_, hq17.lx.c0, _, hq17.lx.c1, ⟨by omega, by omega, by omega⟩, hq17.tg.wr1, fun w18 h18 => ?_⟩
      have hf18 : Fr (· = r + 1) w17 w18 := by rw [h18]; exact .set _ _ _ rfl
      have ht18 : TkAt w18 (r + 1) 0 (s.extract f p) line := by rw [h18]; exact hq17.tg.text _
      have hl18 := hq17.lx.keep hf18 (by omega)
      refine ⟨_, hl18.c1, hl18.wr1, fun w19 h19 => ?_⟩
      have hf19 : Fr (· = b) w18 w19 := by rw [h19]; exact .set _ _ _ rfl
      have hl19 := hl18.step hp
      rw [← h19] at hl19
      have hr19 := (hq17.tr.keep hf18 (by omega)).keep hf19 (by omega)
      exact fin_next hl19 (ht18.keep hf19 (by omega)) hr19 hb hg (((hfl.trans' (.drew _ (d15.trans (d16.trans d17)))).trans hf18 fun q hq e => by omega).trans' hf19) fun w' hl' hf' => ⟨hf', .inr ⟨0, _, _, p + 1, hZp, by
        rw [List.append_nil, ext_cat hfp hple, bs_self]; rfl, hl', rfl, by omega⟩⟩
  case bare =>
    rintro z a wl ⟨rfl, f, p, rfl, hfp, hq, hip, hfl, hZp⟩
    have hple := hq.lx.hi
    refine ⟨fun w' => NS w' b s p line r ∧ Fr (· = b) w w' ∧ bareL (s.data.toList.drop p) = ([], s.data.toList.drop p), fun w15 d15 => ?_, ?_⟩
    · have hq15 := hq.drew d15
      refine ⟨fun w' => w' = w15, rfl, _, fun w' e => by rw [e]; exact hq15.lx.c1, _, fun w' e => by rw [e]; exact hq15.lx.c0, fun hlt => ⟨_, fun w' e => by rw [e]; exact hq15.lx.c0, _, fun w' e => by rw [e]; exact hq15.lx.c1, ⟨by omega, by have := of_decide_eq_true hlt; omega⟩, ?_⟩, fun hge => ⟨rfl, rfl, hq15, hfl.trans' (.drew _ d15), ?_⟩⟩
      rotate_left
      · have : p = s.size := by have := of_decide_eq_false hge; omega
        rw [this, drop_end]; rfl
      have hp : p < s.size := by have := of_decide_eq_true hlt; omega
      rw [byteAt_nat]
      refine (indexByte_spec _ (byt s p) (byt_lt _ _) _).mono ?_
      rintro e w16 ⟨rfl, rfl⟩
      obtain ⟨hs1, hs2⟩ := stop_at (byt s p) (byt_lt _ _)
      refine ⟨_, rfl, rfl, fun hlt => ⟨_, fun w' e => by rw [e]; exact hq15.lx.c0, _, fun w' e => by rw [e]; exact hq15.lx.c1, ⟨by omega, by omega⟩, ?_⟩, fun hge => ⟨rfl, hq15, hfl.trans' (.drew _ d15), ?_⟩⟩
      · rw [Int.toNat_natCast]
        refine (hasPrefix_spec _ _ _).mono ?_
        rintro e w17 ⟨rfl, rfl⟩
        rw [slashes_pre]
        refine ⟨_, rfl, rfl, fun hn => ?_, fun hn => ⟨hq15, hfl.trans' (.drew _ d15), ?_⟩⟩
        · refine ⟨_, hq15.lx.c1, hq15.lx.wr1, fun w31 h31 => ?_⟩
          have hq31 := hq15.step hp
          rw [← h31] at hq31
          refine ⟨⟨rfl, f, p + 1, rfl, by omega, hq31, by omega, (hfl.trans' (.drew _ d15)).trans' (by rw [h31]; exact .set _ _ _ rfl), ?_⟩, by dsimp only; rw [hP hq31, hP hq]; omega⟩
          have hsl : slashes (s.data.toList.drop p) = false := by simpa using hn
          rw [drop_at hp] at hsl
          rw [hZp, take_snoc hfp hp, drop_at hp, bareL, if_neg (by rw [hsl, hs1 (of_decide_eq_true hlt)]; simp)]
          simp
        · have hsl : slashes (s.data.toList.drop p) = true := by simpa using hn
          rw [drop_at hp] at hsl ⊢
          rw [bareL, if_pos (.inr hsl)]
      · rw [drop_at hp, bareL, if_pos (.inl (hs2 (of_decide_eq_false hge)))]
    · rintro w15 ⟨hq15, hf15, hbe⟩ w16 d16
      have hq17 := hq15.drew d16
      rw [hbe] at hZp
      refine ⟨_, hq17.lx.c0, _, hq17.lx.c1, ⟨by omega, by omega, by omega⟩, hq17.tg.wr1, fun w18 h18 => ?_⟩
      have hf18 : Fr (· = r + 1) w16 w18 := by rw [h18]; exact .set _ _ _ rfl
      have ht18 : TkAt w18 (r + 1) 0 (s.extract f p) line := by rw [h18]; exact hq17.tg.text _
      have hl18 := hq17.lx.keep hf18 (by omega)
      exact fin_next hl18 ht18 (hq17.tr.keep hf18 (by omega)) hb hg ((hf15.trans' (.drew _ d16)).trans hf18 fun q hq e => by omega) fun w' hl' hf' => ⟨hf', .inr ⟨0, _, _, p, hZp, by
        rw [List.append_nil, ext_cat hfp hple, bs_self]; rfl, hl', rfl, by omega⟩⟩
  case' skip => intro a wl hI
  case' entry =>
    intro w11 h11
    have hf11 : Fr (fun _ => False) w1 w11 := by rw [h11]; exact .alloc _ _ _
    have ht0 : TkAt w11 (r + 1) 0 ⟨#[]⟩ 0 := by rw [h11, ← hs1]; exact alloc_new _ _
    obtain ⟨wl, hst, ht1, hf12⟩ := ht0.store (k := 0) (t := ⟨#[]⟩) (n := (line : Int))
    refine ⟨wl, hst, ?_⟩
    have hI : I2 ⟨r + 1, 0, none⟩ wl := ⟨rfl, i, ⟨(h.keep (hf1.trans' hf11) (by simp)).keep hf12 (by omega), ht1, (htr.keep hf11 (by simp)).keep hf12 (by omega), hb⟩, Nat.le_refl _, ((hf1.trans' hf11).mono fun _ _ h => h.elim).trans hf12 fun q hq e => by omega, hZ.symm⟩
  all_goals
    obtain ⟨ha, p, hq, hip, hfl, hZp⟩ := hI
    cases ha
    have hple := hq.lx.hi
    refine ⟨_, hq.lx.c1, _, hq.lx.c0, fun w15 d15 => ?_⟩
    have hq15 := hq.drew d15
    have hf15 := hfl.trans' (.drew _ d15)
    refine ⟨fun he => ?_, fun hne => ?_⟩
    · have hpe : p = s.size := by have := eq_of_beq he; omega
      subst hpe
      rw [drop_end, nextL] at hZp
      refine ⟨hq15.tg.wr0, fun w16 h16 => ?_⟩
      have hf16 : Fr (· = r + 1) w15 w16 := by rw [h16]; exact .set _ _ _ rfl
      have ht16 : TkAt w16 (r + 1) 4 ⟨#[]⟩ line := by rw [h16]; exact hq15.tg.kind 4
      exact fin_next (hq15.lx.keep hf16 (by omega)) ht16 (hq15.tr.keep hf16 (by omega)) hb hg (hf15.trans hf16 fun q hq e => by omega) fun w' hl' hf' => ⟨hf', .inr ⟨4, _, _, s.size, hZp, rfl, hl', drop_end s, hip⟩⟩
    have hp := hq15.lx.lt hne
    refine ⟨_, hq15.lx.c0, _, hq15.lx.c1, ⟨by omega, by omega⟩, fun w26 d26 => ?_⟩
    have hq26 := hq15.drew d26
    have hf26 := hf15.trans' (.drew _ d26)
    rw [drop_at hp, nextL] at hZp
    refine ⟨fun bb w' => w' = w26 ∧ (bb = true ↔ (UInt8.ofNat (byt s p) = 32 ∨ UInt8.ofNat (byt s p) = 9 ∨ UInt8.ofNat (byt s p) = 13)), ⟨fun h32 => ⟨rfl, by simp [byt_is 32 h32]⟩, fun h32 => ⟨fun h9 => ⟨rfl, by simp [byt_is 9 h9]⟩, fun h9 => ⟨rfl, ?_⟩⟩⟩, ?_⟩
    · refine ⟨fun h13 => .inr (.inr (byt_is 13 h13)), fun hh => ?_⟩
      rcases hh with hh | hh | hh
      · exact absurd hh (byt_not 32 h32)
      · exact absurd hh (byt_not 9 h9)
      · cases h13 : (byteAt s (p : Int) == 13) with
        | true => rfl
        | false => exact absurd hh (byt_not 13 h13)
    rintro bb w29 ⟨hw, hbb⟩
    replace hw := hw.symm
    subst hw
    refine ⟨fun ht => ?_, fun hft => ?_⟩
    · have hc := hbb.1 ht
      rw [if_pos hc] at hZp
      have hn10 : byt s p ≠ 10 := fun e => by rw [e] at hc; revert hc; decide
      refine ⟨_, hq26.lx.c1, hq26.lx.wr1, fun w31 h31 => ?_⟩
      have hq31 := hq26.step hp
      rw [← h31] at hq31
      have hI : I2 ⟨r + 1, 0, none⟩ w31 := ⟨rfl, p + 1, hq31, by omega, hf26.trans' (by rw [h31]; exact .set _ _ _ rfl), hZp⟩
      first
        | exact ⟨hI, by dsimp only; rw [hP hq31, hP hq, sk_eq hp hn10]; have := sk_le s (p + 1); omega⟩
        | exact hI
    rw [if_neg (fun hh => by rw [hbb.2 hh] at hft; cases hft)] at hZp
    refine ⟨fun h10 => ?_, fun h10 => ⟨fun h40 => ?_, fun h40 => ⟨fun h41 => ?_, fun h41 w64 d64 => ?_⟩⟩⟩
    · rw [if_pos (byt_is 10 h10)] at hZp
      refine ⟨_, hq26.lx.c1, hq26.lx.wr1, fun w31 h31 => ?_⟩
      have hq31 := hq26.step hp
      rw [← h31] at hq31
      have hf31 : Fr (· = b) w26 w31 := by rw [h31]; exact .set _ _ _ rfl
      refine ⟨_, hq31.lx.c2, hq31.lx.wr2, fun w32 h32 => ?_⟩
      have hl32 := hq31.lx.line1 (by have := hq26.lx.hl; omega)
      rw [← h32] at hl32
      have hf32 : Fr (· = b) w31 w32 := by rw [h32]; exact .set _ _ _ rfl
      have ht32 := hq31.tg.keep hf32 (by omega)
      refine ⟨ht32.wr0, fun w33 h33 => ?_⟩
      have hf33 : Fr (· = r + 1) w32 w33 := by rw [h33]; exact .set _ _ _ rfl
      have ht33 : TkAt w33 (r + 1) 3 ⟨#[]⟩ line := by rw [h33]; exact ht32.kind 3
      exact fin_next (hl32.keep hf33 (by omega)) ht33 ((hq31.tr.keep hf32 (by omega)).keep hf33 (by omega)) hb hg (((hf26.trans' hf31).trans' hf32).trans hf33 fun q hq e => by omega) fun w' hl' hf' => ⟨hf', .inr ⟨3, _, _, p + 1, hZp, rfl, hl', rfl, by omega⟩⟩
    · rw [if_neg (byt_not 10 h10), if_pos (byt_is 40 h40)] at hZp
      refine ⟨_, hq26.lx.c1, hq26.lx.wr1, fun w31 h31 => ?_⟩
      have hq31 := hq26.step hp
      rw [← h31] at hq31
      have hf31 : Fr (· = b) w26 w31 := by rw [h31]; exact .set _ _ _ rfl
      refine ⟨hq31.tg.wr0, fun w33 h33 => ?_⟩
      have hf33 : Fr (· = r + 1) w31 w33 := by rw [h33]; exact .set _ _ _ rfl
      have ht33 : TkAt w33 (r + 1) 1 ⟨#[]⟩ line := by rw [h33]; exact hq31.tg.kind 1
      exact fin_next (hq31.lx.keep hf33 (by omega)) ht33 (hq31.tr.keep hf33 (by omega)) hb hg ((hf26.trans' hf31).trans hf33 fun q hq e => by omega) fun w' hl' hf' => ⟨hf', .inr ⟨1, _, _, p + 1, hZp, rfl, hl', rfl, by omega⟩⟩
    · rw [if_neg (byt_not 10 h10), if_neg (byt_not 40 h40), if_pos (byt_is 41 h41)] at hZp
      refine ⟨_, hq26.lx.c1, hq26.lx.wr1, fun w31 h31 => ?_⟩
      have hq31 := hq26.step hp
      rw [← h31] at hq31
      have hf31 : Fr (· = b) w26 w31 := by rw [h31]; exact .set _ _ _ rfl
      refine ⟨hq31.tg.wr0, fun w33 h33 => ?_⟩
      have hf33 : Fr (· = r + 1) w31 w33 := by rw [h33]; exact .set _ _ _ rfl
      have ht33 : TkAt w33 (r + 1) 2 ⟨#[]⟩ line := by rw [h33]; exact hq31.tg.kind 2
      exact fin_next (hq31.lx.keep hf33 (by omega)) ht33 (hq31.tr.keep hf33 (by omega)) hb hg ((hf26.trans' hf31).trans hf33 fun q hq e => by omega) fun w' hl' hf' => ⟨hf', .inr ⟨2, _, _, p + 1, hZp, rfl, hl', rfl, by omega⟩⟩
    rw [if_neg (byt_not 10 h10), if_neg (byt_not 40 h40), if_neg (byt_not 41 h41)] at hZp
    have hq64 := hq26.drew d64
    have hf64 := hf26.trans' (.drew _ d64)
    refine ⟨fun w' => w' = w64, rfl, _, fun w' e => by rw [e]; exact hq64.lx.c0, _, fun w' e => by rw [e]; exact hq64.lx.c1, ⟨by omega, by omega⟩, ?_⟩
    rw [Int.toNat_natCast]
    refine (hasPrefix_spec _ _ _).mono ?_
    rintro e w71 ⟨rfl, rfl⟩
    rw [slashes_pre]
    have hn10 : byt s p ≠ 10 := fun e => by have := byt_not 10 h10; rw [e] at this; exact this rfl
    refine ⟨_, rfl, rfl, fun hsl => ?_, fun hsl => ⟨fun h34 => ?_, fun h34 => ⟨fun h96 => ?_, fun h96 => ?_⟩⟩⟩
    · rw [← drop_at hp, if_pos hsl] at hZp
      have hI : I4 ⟨r + 1, 0, none⟩ w71 := ⟨rfl, p, hq64, hip, hf64, hZp⟩
      first
        | exact ⟨hI, by dsimp only; rw [hP hq64, hP hq, sk_eq hp hn10]; omega⟩
        | exact hI
    all_goals
      rw [drop_at hp] at hsl
      rw [if_neg (by rw [hsl]; decide)] at hZp
    · rw [if_pos (byt_is 34 h34)] at hZp
      refine ⟨_, hq64.lx.c1, hq64.lx.wr1, fun w31 h31 => ?_⟩
      have hq31 := hq64.step hp
      rw [← h31] at hq31
      have hf31 : Fr (· = b) w71 w31 := by rw [h31]; exact .set _ _ _ rfl
      refine ⟨_, _, _, hq31.tg.load, (quoted_spec hq31.lx 0 ⟨#[]⟩ line).mono ?_⟩
      rintro e w32 ⟨v, rfl, hf32, hr32⟩
      have hr1 := hq31.tr.keep hf32 (by omega)
      rcases hr32 with ⟨hq0, t', rfl⟩ | ⟨x, rr, j, hq0, rfl, hl, hd, hj⟩
      · rw [hq0] at hZp
        obtain ⟨w33, h1, h2, h3⟩ := hr1.store (k := 0) (t := t') (n := (line : Int))
        exact ⟨_, _, _, _, rfl, w33, h1, _, _, _, h2.load, ((hf64.trans' hf31).trans' hf32).trans h3 (fun q hq e => by omega), .inl ⟨hZp, _, _, rfl⟩⟩
      · rw [hq0] at hZp
        obtain ⟨w33, h1, h2, h3⟩ := hr1.store (k := 0) (t := ⟨x.toArray⟩) (n := (line : Int))
        exact ⟨_, _, _, _, rfl, w33, h1, _, _, _, h2.load, ((hf64.trans' hf31).trans' hf32).trans h3 (fun q hq e => by omega), .inr ⟨0, x, rr, j, hZp, rfl, hl.keep h3 (by omega), hd, by omega⟩⟩
    · rw [if_neg (byt_not 34 h34), if_pos (byt_is 96 h96)] at hZp
      refine ⟨_, hq64.lx.c1, hq64.lx.wr1, fun w31 h31 => ?_⟩
      have hq31 := hq64.step hp
      rw [← h31] at hq31
      have hf31 : Fr (· = b) w71 w31 := by rw [h31]; exact .set _ _ _ rfl
      refine ⟨_, hq31.lx.c1, ?_⟩
      have hI : I6 ((p + 1 : Nat) : Int) ⟨r + 1, 0, none⟩ w31 := ⟨rfl, p + 1, p + 1, rfl, Nat.le_refl _, hq31, by omega, hf64.trans' hf31, by rw [hZp, Nat.sub_self, List.take_zero]; cases rawL (s.data.toList.drop (p + 1)) <;> rfl⟩
      first
        | exact ⟨hI, by dsimp only; rw [hP hq31, hP hq, sk_eq hp hn10]; omega⟩
        | exact hI
    · rw [if_neg (byt_not 34 h34), if_neg (byt_not 96 h96), ← drop_at hp] at hZp
      refine ⟨_, hq64.lx.c1, ?_⟩
      have hI : I8 (p : Int) ⟨r + 1, 0, none⟩ w71 := ⟨rfl, p, p, rfl, Nat.le_refl _, hq64, hip, hf64, by rw [hZp, Nat.sub_self, List.take_zero, List.nil_append]⟩
      first
        | exact ⟨hI, by dsimp only; rw [hP hq64, hP hq, sk_eq hp hn10]; omega⟩
        | exact hI
end Go.Proofs.YtmhlmdnhpfhoeaaDoor
