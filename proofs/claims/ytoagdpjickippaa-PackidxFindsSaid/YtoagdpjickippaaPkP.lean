/- packidx.Parse: what bytes say as an index. Conditions: the text is shorter than a hundred million bytes. -/
import Derived.Test.YtoagdpjickippaaPkN
import Derived.Test.YtoagdpjickippaaSumB
import Derived.Test.YtoagdpjickippaaHexG
import Derived.Test.YtoagdpjickippaaShaU
import Derived.Test.YtoagdpjickippaaPk1
set_option linter.unusedVariables false
namespace Go.Proofs.Ytoagdpjickippaa
open Go Vc HexM SumM ShaM Go.Proofs

def sha1D : List UInt8 → List UInt8 := digest block1 start1
theorem elP : ElK encP 3 Try.prog T_S_packidx_Row T_packidx_Row (.agg #[.string ⟨#[]⟩, .int .i64 0, .int .u32 0]) 32 :=
  ⟨by kernel_rfl, by kernel_rfl, rfl, by decide, by kernel_rfl, fun _ => rfl, fun x u hu => by
    simp only [encP, List.mem_cons, List.mem_nil_iff, or_false] at hu
    rcases hu with rfl | rfl | rfl <;> rfl⟩
/-- An index under way: its rows, its fan, its sum. -/
def IdxAt (w : World) (b : Nat) (l : Sl) (F : Nat → Nat) (s : ByteArray) : Prop := ∃ cs : Array Value, w.heap[b]? = some (.cells cs T_packidx_Idx (0, 0)) ∧ cs.size = 259 ∧ cs[0]? = some (.slice l.a l.len l.cap) ∧
  (∀ c, c < 257 → cs[1 + c]? = some (.int .i64 (F c : Nat))) ∧ cs[258]? = some (.string s)
theorem IdxAt.keep {w w1 : World} {b : Nat} {l : Sl} {F : Nat → Nat} {s : ByteArray} (h : IdxAt w b l F s) {X : Nat → Prop} (hf : Fr X w w1) (hx : ¬ X b) : IdxAt w1 b l F s := by
  obtain ⟨cs, h1, h2⟩ := h
  exact ⟨cs, hf.keep h1 hx, h2⟩
theorem IdxAt.rowsC {w : World} {b : Nat} {l : Sl} {F : Nat → Nat} {s : ByteArray} (h : IdxAt w b l F s) : w.cell? ⟨b, 0, none⟩ = some (.slice l.a l.len l.cap) := by
  obtain ⟨cs, h1, _, h3, _⟩ := h
  rw [cell_blk h1]; exact h3
theorem IdxAt.fanC {w : World} {b : Nat} {l : Sl} {F : Nat → Nat} {s : ByteArray} (h : IdxAt w b l F s) {c : Nat} (hc : c < 257) : w.cell? ⟨b, 1 + c * 1, none⟩ = some (.int .i64 (F c : Nat)) := by
  obtain ⟨cs, h1, _, _, h4, _⟩ := h
  rw [cell_blk h1, Nat.mul_one]; exact h4 c hc
theorem IdxAt.sumC {w : World} {b : Nat} {l : Sl} {F : Nat → Nat} {s : ByteArray} (h : IdxAt w b l F s) : w.cell? ⟨b, 258, none⟩ = some (.string s) := by
  obtain ⟨cs, h1, _, _, _, h5⟩ := h
  rw [cell_blk h1]; exact h5
theorem IdxAt.wr {w : World} {b : Nat} {l : Sl} {F : Nat → Nat} {s : ByteArray} (h : IdxAt w b l F s) {i : Nat} (hi : i < 259) : Wr w ⟨b, i, none⟩ := by
  obtain ⟨cs, h1, h2, _⟩ := h
  exact wr_blk h1 (by omega)
theorem IdxAt.setRows {w : World} {b : Nat} {l : Sl} {F : Nat → Nat} {s : ByteArray} (h : IdxAt w b l F s) (l' : Sl) : IdxAt (w.setCell ⟨b, 0, none⟩ (.slice l'.a l'.len l'.cap)) b l' F s := by
  obtain ⟨cs, h1, h2, h3, h4, h5⟩ := h
  refine ⟨_, set_blk h1 0 _, by simpa using h2, ?_, fun c hc => ?_, ?_⟩
  · rw [Array.getElem?_setIfInBounds, if_pos rfl, if_pos (by omega)]
  · rw [Array.getElem?_setIfInBounds, if_neg (by omega)]; exact h4 c hc
  · rw [Array.getElem?_setIfInBounds, if_neg (by omega)]; exact h5
theorem IdxAt.setSum {w : World} {b : Nat} {l : Sl} {F : Nat → Nat} {s : ByteArray} (h : IdxAt w b l F s) (s' : ByteArray) : IdxAt (w.setCell ⟨b, 258, none⟩ (.string s')) b l F s' := by
  obtain ⟨cs, h1, h2, h3, h4, h5⟩ := h
  refine ⟨_, set_blk h1 258 _, by simpa using h2, ?_, fun c hc => ?_, ?_⟩
  · rw [Array.getElem?_setIfInBounds, if_neg (by omega)]; exact h3
  · rw [Array.getElem?_setIfInBounds, if_neg (by omega)]; exact h4 c hc
  · rw [Array.getElem?_setIfInBounds, if_pos rfl, if_pos (by omega)]
theorem IdxAt.setFan {w : World} {b : Nat} {l : Sl} {F G : Nat → Nat} {s : ByteArray} (h : IdxAt w b l F s) {c v : Nat} (hc : c < 257) (hG : ∀ k, k < 257 → G k = if k = c then v else F k) : IdxAt (w.setCell ⟨b, 1 + c * 1, none⟩ (.int .i64 (v : Nat))) b l G s := by
  obtain ⟨cs, h1, h2, h3, h4, h5⟩ := h
  refine ⟨_, set_blk h1 _ _, by simpa using h2, ?_, fun k hk => ?_, ?_⟩
  · rw [Array.getElem?_setIfInBounds, if_neg (by omega)]; exact h3
  · rw [Array.getElem?_setIfInBounds, hG k hk]
    by_cases hkc : k = c
    · rw [if_pos (by omega), if_pos (by omega), if_pos hkc]
    · rw [if_neg (by omega), if_neg hkc]; exact h4 k hk
  · rw [Array.getElem?_setIfInBounds, if_neg (by omega)]; exact h5
theorem idx_new {w w1 : World} {cs : Array Value} (h : w1 = w.alloc (.cells cs T_packidx_Idx)) (hc : cs.toList = .slice none 0 0 :: (List.replicate 257 (.int .i64 0) ++ [.string ⟨#[]⟩])) : IdxAt w1 w.heap.size ⟨none, 0, 0⟩ (fun _ => 0) ⟨#[]⟩ := by
  refine ⟨cs, by rw [h]; exact alloc_new _ _, ?_, ?_, fun c hc' => ?_, ?_⟩
  · rw [← Array.length_toList, hc, List.length_cons, List.length_append, List.length_replicate]; rfl
  · rw [← Array.getElem?_toList, hc]; rfl
  · rw [← Array.getElem?_toList, hc, Nat.add_comm, List.getElem?_cons_succ, List.getElem?_append_left (by rw [List.length_replicate]; exact hc'), List.getElem?_replicate, if_pos hc']; rfl
  · rw [← Array.getElem?_toList, hc, List.getElem?_cons_succ, List.getElem?_append_right (by rw [List.length_replicate]; omega), List.length_replicate]; rfl
/-- An index that stands still. -/
structure IsIdx (w : World) (b : Nat) (rows : List PRow) (sum : ByteArray) : Prop where
  at_ : ∃ l F, IdxAt w b l F sum ∧ ReadsK encP 3 w l.a rows ∧ rows.length = l.len
theorem IsIdx.keep {w w1 : World} {b : Nat} {rows : List PRow} {sum : ByteArray} (h : IsIdx w b rows sum) (hf : Fr (fun _ => False) w w1) : IsIdx w1 b rows sum := by
  obtain ⟨l, F, h1, h2, h3⟩ := h.at_
  exact ⟨l, F, h1.keep hf (by simp), h2.keep hf (by simp), h3⟩
theorem sl_extract (s : ByteArray) (i n : Nat) : (s.extract i (i + n)).data.toList = PkM.sl s.data.toList i n := by
  rw [bs_extract, Nat.add_sub_cancel_left]; rfl
theorem hd0_byt (s : ByteArray) : byt s 0 = PkM.hd0 s.data.toList := by
  unfold byt PkM.hd0
  cases s.data.toList <;> rfl
def ParseR (L : List UInt8) (w : World) (v : Value) (w' : World) : Prop := Fr (fun _ => False) w w' ∧ match PkM.parseE sha1D L with
  | .error n => v = .tuple #[.pointer none, .int .i64 (n : Nat)]
  | .ok (rows, sum) => ∃ b, v = .tuple #[.pointer (some ⟨b, 0, none⟩), .int .i64 0] ∧ w.heap.size ≤ b ∧ IsIdx w' b (rows.map ofRaw) ⟨(hexL sum).toArray⟩
set_option maxHeartbeats 1000000 in
theorem parse_spec (s : ByteArray) (hs : s.size ≤ 100000000) (w : World) : Calls Try.prog F_packidx_Parse #[.string s] w fun e w' => ∃ v, e = .returned v ∧ ParseR s.data.toList w v w' := by
  refine vc_packidx_Parse_ok (R := ParseR s.data.toList w) ?_ (fun v w' h => ⟨v, rfl, h⟩)
  obtain ⟨L, hL⟩ : ∃ L, s.data.toList = L := ⟨_, rfl⟩
  have hsz : L.length = s.size := by rw [← hL]; simp
  have ex : ∀ i n, (s.extract i (i + n)).data.toList = PkM.sl L i n := fun i n => by rw [sl_extract, hL]
  rw [hL]
  have bad : ∀ {w' : World} {k : Nat}, Fr (fun _ => False) w w' → PkM.parseE sha1D L = .error k → ParseR L w (.tuple #[.pointer none, .int .i64 (k : Nat)]) w' := fun hf he => ⟨hf, by rw [he]⟩
  have hE := PkM.parseE.eq_1 sha1D L
  refine ⟨fun h => bad (k := 6) (.refl _ _) (by rw [hE, if_pos (by have := of_decide_eq_true h; omega)]), fun h => ⟨⟨by decide, by have := of_decide_eq_false h; omega⟩, ?_⟩⟩
  have h1072 : 1072 ≤ L.length := by have := of_decide_eq_false h; omega
  rw [if_neg (by omega)] at hE
  have h8 : (s.extract 0 8).data.toList = L.take 8 := by rw [bs_head, hL]
  have hmg : decide (s.extract 0 8 = ⟨#[255, 116, 79, 99, 0, 0, 0, 2]⟩) = decide (L.take 8 = PkM.magic) := decide_eq_decide.2 ⟨fun e => by rw [← h8, e]; rfl, fun e => bs_ext (by rw [h8, e]; rfl)⟩
  rw [show Int.toNat 8 = 8 from rfl, bs_eq, hmg]
  refine ⟨fun hm => bad (k := 3) (.refl _ _) (by rw [hE, if_pos (by simpa using hm)]), fun hm w1 h1 => ?_⟩
  rw [if_neg (by simpa using hm)] at hE
  have hf1 : Fr (fun _ => False) w w1 := by rw [h1]; exact .alloc _ _ _
  have hi1 := idx_new h1 (by kernel_rfl)
  have hs1 : w1.heap.size = w.heap.size + 1 := by rw [h1]; exact Array.size_push _
  clear h1
  obtain ⟨b, hb⟩ : ∃ b, w.heap.size = b := ⟨_, rfl⟩
  rw [hb] at hi1 hs1 ⊢
  have hset : ∀ {w' w2 : World}, Fr (fun _ => False) w w' → Fr (· = b) w' w2 → Fr (fun _ => False) w w2 := fun h h' => h.trans h' fun q hq e => by omega
  have hsz1 : ∀ {w' : World}, Fr (fun _ => False) w1 w' → b + 1 ≤ w'.heap.size := fun h => by have := h.size; omega
  refine ⟨fun i w' => ∃ k : Nat, i = k ∧ k ≤ 256 ∧ IdxAt w' b ⟨none, 0, 0⟩ (fun c => if c ≤ k then PkM.fanB L c else 0) ⟨#[]⟩ ∧ (∀ j, j + 1 < k → ¬ PkM.fan L (j + 1) < PkM.fan L j) ∧ Fr (fun _ => False) w w', fun i _ => 256 - i.toNat,
    ⟨0, rfl, Nat.zero_le _, ?_, fun j hj => by omega, hf1⟩, ?_⟩
  · obtain ⟨cs, c1, c2, c3, c4, c5⟩ := hi1
    refine ⟨cs, c1, c2, c3, fun c hc => ?_, c5⟩
    have h0 : (if c ≤ 0 then PkM.fanB L c else 0) = 0 := by
      split
      · have : c = 0 := by omega
        subst this; rfl
      · rfl
    rw [c4 c hc]
    show some (Value.int .i64 ((0 : Nat) : Int)) = some (.int .i64 ((if c ≤ 0 then PkM.fanB L c else 0 : Nat) : Int))
    rw [h0]
  clear hi1
  rintro i w5 ⟨k, rfl, hk, hi5, hmon, hf5⟩
  have e1 : IntKind.i64.wrap ((k : Int) + 1) = ((k + 1 : Nat) : Int) := by rw [wrap_i64 (by omega) (by omega)]; omega
  refine ⟨fun hlt w6 d6 => ?_, fun hge => ?_⟩
  · have hlt := of_decide_eq_true hlt
    have a1 : IntKind.i64.wrap (8 + IntKind.i64.wrap (4 * (k : Int))) = ((8 + 4 * k : Nat) : Int) := by rw [wrap_i64 (x := 4 * (k : Int)) (by omega) (by omega), wrap_i64 (by omega) (by omega)]; omega
    have a2 : IntKind.i64.wrap (12 + IntKind.i64.wrap (4 * (k : Int))) = ((8 + 4 * k + 4 : Nat) : Int) := by rw [wrap_i64 (x := 4 * (k : Int)) (by omega) (by omega), wrap_i64 (by omega) (by omega)]; omega
    rw [a1, a2, e1, Int.toNat_natCast, Int.toNat_natCast, Int.toNat_natCast, Int.toNat_natCast]
    refine ⟨fun _ => True, trivial, ⟨by omega, by omega, by omega⟩, (frombig_spec _ (by rw [ByteArray.size_extract]; omega) w6).mono ?_⟩
    rintro e w9 ⟨rfl, hw⟩
    replace hw := hw.symm
    subst hw
    rw [ex]
    have hv : num8 (PkM.sl L (8 + 4 * k) 4) = PkM.fan L k := rfl
    rw [hv]
    have hvl : PkM.fan L k < 4294967296 := num8_lt 4 _ (PkM.sl_len (by omega))
    have e2 : IntKind.i64.wrap ((PkM.fan L k : Nat) : Int) = ((PkM.fan L k : Nat) : Int) := wrap_i64 (by omega) (by omega)
    have hf6 : Fr (fun _ => False) w w6 := hf5.trans' (.drew _ d6)
    have hi6 := hi5.keep (.drew (fun _ => False) d6) (by simp)
    refine ⟨_, rfl, trivial, ⟨by omega, by omega⟩, ?_⟩
    rw [add_lit, add_lit, e2]
    refine ⟨hi6.wr (by omega), fun w11 h11 => ?_⟩
    have hfb : PkM.fanB L (k + 1) = PkM.fan L k := by unfold PkM.fanB; rw [if_neg (by omega)]; rfl
    have hi11 : IdxAt w11 b ⟨none, 0, 0⟩ (fun c => if c ≤ k + 1 then PkM.fanB L c else 0) ⟨#[]⟩ := by
      rw [h11]
      refine hi6.setFan (c := k + 1) (v := PkM.fan L k) (by omega) fun j hj => ?_
      by_cases hjk : j = k + 1
      · subst hjk; rw [if_pos (Nat.le_refl _), if_pos rfl, hfb]
      · rw [if_neg hjk]
        by_cases hjl : j ≤ k
        · rw [if_pos (by omega), if_pos hjl]
        · rw [if_neg (by omega), if_neg hjl]
    have hf11 : Fr (fun _ => False) w w11 := hset hf6 (by rw [h11]; exact Fr.set (· = b) _ _ rfl)
    clear h11
    have c1 := hi11.fanC (c := k + 1) (by omega)
    have c2 := hi11.fanC (c := k) (by omega)
    simp only [Nat.le_refl, if_true, Nat.le_succ, hfb] at c1 c2
    refine ⟨⟨by omega, by omega⟩, _, c1, ⟨by omega, by omega⟩, _, c2, fun w14 d14 => ?_⟩
    have hf14 := hf11.trans' (.drew _ d14)
    refine ⟨fun hlt2 => bad (k := 3) hf14 ?_, fun hge2 => ⟨⟨k + 1, rfl, by omega, hi11.keep (.drew (fun _ => False) d14) (by simp), fun j hj => ?_, hf14⟩, by dsimp only; omega⟩⟩
    · have hlt2 := of_decide_eq_true hlt2
      have hk0 : k ≠ 0 := fun e => by
        subst e
        have : PkM.fanB L 0 = 0 := rfl
        omega
      have hfk : PkM.fanB L k = PkM.fan L (k - 1) := by unfold PkM.fanB; rw [if_neg hk0]
      rw [hE, if_pos ⟨k - 1, by omega, by rw [show k - 1 + 1 = k by omega]; omega⟩]
    · by_cases hjk : j + 1 < k
      · exact hmon j hjk
      · have hge2 := of_decide_eq_false hge2
        have hk' : k = j + 1 := by omega
        subst hk'
        have hfk : PkM.fanB L (j + 1) = PkM.fan L j := by unfold PkM.fanB; rw [if_neg (by omega)]; rfl
        omega
  · have hge := of_decide_eq_false hge
    have hk' : k = 256 := by omega
    subst hk'
    clear e1
    have hnm : ¬ ∃ i, i < 255 ∧ PkM.fan L (i + 1) < PkM.fan L i := fun ⟨i, hi, h⟩ => hmon i (by omega) h
    rw [if_neg hnm] at hE
    clear hmon hnm
    have c3 := hi5.fanC (c := 256) (by omega)
    have hf256 : PkM.fanB L 256 = PkM.fan L 255 := rfl
    simp only [Nat.le_refl, if_true, hf256] at c3
    rw [show Int.toNat 256 = 256 from rfl, add_lit]
    refine ⟨⟨by decide, by decide⟩, _, c3, ?_⟩
    have hi5' : IdxAt w5 b ⟨none, 0, 0⟩ (PkM.fanB L) ⟨#[]⟩ := by
      obtain ⟨cs, k1, k2, k3, k4, k5⟩ := hi5
      refine ⟨cs, k1, k2, k3, fun c hc => ?_, k5⟩
      have := k4 c hc
      simp only [show c ≤ 256 by omega, if_true] at this
      exact this
    clear hi5 c3
    generalize hn : PkM.fan L 255 = n at hE ⊢
    refine ⟨fun h => bad (k := 2) hf5 (by rw [hE, if_pos (by have := of_decide_eq_true h; omega)]), fun h => ?_⟩
    have h1000 : n ≤ 1000 := by have := of_decide_eq_false h; omega
    rw [if_neg (by omega)] at hE
    have f1 : IntKind.i64.wrap (1032 + IntKind.i64.wrap (28 * (n : Int))) = ((1032 + 28 * n : Nat) : Int) := by rw [wrap_i64 (x := 28 * (n : Int)) (by omega) (by omega), wrap_i64 (by omega) (by omega)]; omega
    have f2 : IntKind.i64.wrap (((1032 + 28 * n : Nat) : Int) + 40) = ((1072 + 28 * n : Nat) : Int) := by rw [wrap_i64 (by omega) (by omega)]; omega
    have f3 : IntKind.i64.wrap ((s.size : Int) - 40) = ((s.size - 40 : Nat) : Int) := by rw [wrap_i64 (by omega) (by omega)]; omega
    have f4 : IntKind.i64.wrap ((s.size : Int) - 20) = ((s.size - 20 : Nat) : Int) := by rw [wrap_i64 (by omega) (by omega)]; omega
    rw [f1, f2, f3, f4, Int.toNat_natCast, Int.toNat_natCast, Int.toNat_natCast]
    refine ⟨fun h => bad (k := 6) hf5 (by rw [hE, if_pos (by have := of_decide_eq_true h; omega)]), fun h => ?_⟩
    have hLn : 1072 + 28 * n ≤ L.length := by have := of_decide_eq_false h; omega
    rw [if_neg (by omega)] at hE
    have hfs : (s.extract (1032 + 28 * n) (s.size - 40)).size = L.length - (1072 + 28 * n) := by rw [ByteArray.size_extract]; omega
    have hfl : (s.extract (1032 + 28 * n) (s.size - 40)).data.toList = PkM.farL L n := by
      rw [bs_extract, hL]
      unfold PkM.farL PkM.sl
      rw [hsz]
    have exf : ∀ i m, ((s.extract (1032 + 28 * n) (s.size - 40)).extract i (i + m)).data.toList = PkM.sl (PkM.farL L n) i m := fun i m => by rw [sl_extract, hfl]
    have hfll : (PkM.farL L n).length = L.length - (1072 + 28 * n) := by rw [← hfl, bs_len, hfs]
    rw [hfs]
    generalize s.extract (1032 + 28 * n) (s.size - 40) = far at exf hfs ⊢
    have hmod : Int.tmod ((L.length - (1072 + 28 * n) : Nat) : Int) 8 = (((L.length - (1072 + 28 * n)) % 8 : Nat) : Int) := by
      rw [Int.tmod_eq_emod_of_nonneg (Int.natCast_nonneg _)]; omega
    have hdiv : Int.tdiv ((L.length - (1072 + 28 * n) : Nat) : Int) 8 = (((L.length - (1072 + 28 * n)) / 8 : Nat) : Int) := by
      rw [Int.tdiv_eq_ediv_of_nonneg (Int.natCast_nonneg _)]; omega
    rw [hmod, hdiv]
    refine ⟨⟨by omega, by omega, by omega⟩, by decide, fun h => bad (k := 3) hf5 (by rw [hE, if_pos (by intro e; rw [e] at h; simp at h)]), fun h => ?_⟩
    have hm8 : (L.length - (1072 + 28 * n)) % 8 = 0 := by
      have : (((L.length - (1072 + 28 * n)) % 8 : Nat) : Int) = 0 := by simpa using h
      omega
    rw [if_neg (fun h => h hm8)] at hE
    have hwd : IntKind.i64.wrap ((((L.length - (1072 + 28 * n)) / 8 : Nat) : Int)) = (((L.length - (1072 + 28 * n)) / 8 : Nat) : Int) := wrap_i64 (by omega) (by omega)
    rw [hwd]
    refine ⟨fun i w' => ∃ (j : Nat) (l : Sl) (done : List PkM.Rw), i = j ∧ j ≤ n ∧ IdxAt w' b l (PkM.fanB L) ⟨#[]⟩ ∧ OwnK encP 3 w' (b + 1) T_packidx_Row l (done.map ofRaw) ∧ done.length = j ∧
        (PkM.rowsE L n 0 n = match PkM.rowsE L n j (n - j) with | .error e => .error e | .ok rs => .ok (done ++ rs)) ∧ Fr (fun _ => False) w w' ∧ b + 1 ≤ w'.heap.size, fun i _ => n - i.toNat,
      ⟨0, ⟨none, 0, 0⟩, [], rfl, Nat.zero_le _, hi5', .nil _ _ _, rfl, ?_, hf5, ?_⟩, ?_⟩
    · rw [Nat.sub_zero]
      cases PkM.rowsE L n 0 n <;> rfl
    · obtain ⟨cs, k1, _⟩ := hi5'
      exact lt_blk k1
    clear hi5'
    rintro i w19 ⟨j, l, done, rfl, hj, hi19, ho19, hdl, hrw, hf19, hb19⟩
    refine ⟨fun hlt => ?_, fun hge w54 d54 => ?_⟩
    · have hlt := of_decide_eq_true hlt
      have hjn : j < n := by omega
      have b1 : IntKind.i64.wrap (1032 + IntKind.i64.wrap (20 * (j : Int))) = ((1032 + 20 * j : Nat) : Int) := by rw [wrap_i64 (x := 20 * (j : Int)) (by omega) (by omega), wrap_i64 (by omega) (by omega)]; omega
      have b2 : IntKind.i64.wrap (((1032 + 20 * j : Nat) : Int) + 20) = ((1032 + 20 * j + 20 : Nat) : Int) := by rw [wrap_i64 (by omega) (by omega)]; omega
      have b3 : IntKind.i64.wrap (((1032 + 20 * j : Nat) : Int) - 20) = ((1032 + 20 * j - 20 : Nat) : Int) := by rw [wrap_i64 (by omega) (by omega)]; omega
      have b4 : IntKind.i64.wrap (IntKind.i64.wrap (1032 + IntKind.i64.wrap (24 * (n : Int))) + IntKind.i64.wrap (4 * (j : Int))) = ((1032 + 24 * n + 4 * j : Nat) : Int) := by
        rw [wrap_i64 (x := 24 * (n : Int)) (by omega) (by omega), wrap_i64 (x := 4 * (j : Int)) (by omega) (by omega), wrap_i64 (x := 1032 + 24 * (n : Int)) (by omega) (by omega), wrap_i64 (by omega) (by omega)]; omega
      have b5 : IntKind.i64.wrap (((1032 + 24 * n + 4 * j : Nat) : Int) + 4) = ((1032 + 24 * n + 4 * j + 4 : Nat) : Int) := by rw [wrap_i64 (by omega) (by omega)]; omega
      have b6 : IntKind.i64.wrap (IntKind.i64.wrap (1032 + IntKind.i64.wrap (20 * (n : Int))) + IntKind.i64.wrap (4 * (j : Int))) = ((1032 + 20 * n + 4 * j : Nat) : Int) := by
        rw [wrap_i64 (x := 20 * (n : Int)) (by omega) (by omega), wrap_i64 (x := 4 * (j : Int)) (by omega) (by omega), wrap_i64 (x := 1032 + 20 * (n : Int)) (by omega) (by omega), wrap_i64 (by omega) (by omega)]; omega
      have b7 : IntKind.i64.wrap (((1032 + 20 * n + 4 * j : Nat) : Int) + 4) = ((1032 + 20 * n + 4 * j + 4 : Nat) : Int) := by rw [wrap_i64 (by omega) (by omega)]; omega
      have b8 : IntKind.i64.wrap ((j : Int) + 1) = ((j + 1 : Nat) : Int) := by rw [wrap_i64 (by omega) (by omega)]; omega
      rw [b6, b7, b4, b5, b1, b2, b3, b8]
      simp only [Int.toNat_natCast]
      have hraw : (s.extract (1032 + 20 * j) (1032 + 20 * j + 20)).data.toList = PkM.sl L (1032 + 20 * j) 20 := ex _ _
      have hraws : (s.extract (1032 + 20 * j) (1032 + 20 * j + 20)).size = 20 := by rw [ByteArray.size_extract]; omega
      have hh0 : byteAt (s.extract (1032 + 20 * j) (1032 + 20 * j + 20)) 0 = ((PkM.hd0 (PkM.sl L (1032 + 20 * j) 20) : Nat) : Int) := by
        rw [show (0 : Int) = ((0 : Nat) : Int) from rfl, byteAt_nat, hd0_byt, hraw]
      rw [hh0]
      have hc : PkM.hd0 (PkM.sl L (1032 + 20 * j) 20) < 256 := UInt8.toNat_lt _
      obtain ⟨R, hR⟩ : ∃ R, PkM.rowsE L n j (n - j) = R := ⟨_, rfl⟩
      have hR' := hR
      rw [show n - j = (n - j - 1) + 1 by omega, PkM.rowsE] at hR'
      have hst := PkM.stepE.eq_1 L n j
      have hprev : 0 < j → (s.extract (1032 + 20 * j - 20) (1032 + 20 * j)).data.toList = PkM.sl L (1032 + 20 * j - 20) 20 := fun h0 => by
        have := ex (1032 + 20 * j - 20) 20
        rwa [show 1032 + 20 * j - 20 + 20 = 1032 + 20 * j by omega] at this
      have stop : ∀ {w' : World} {e : Nat}, Fr (fun _ => False) w w' → PkM.stepE L n j = .error e → ParseR L w (.tuple #[.pointer none, .int .i64 (e : Nat)]) w' := fun hf he => bad hf (by
        rw [he] at hR'
        simp only at hR'
        rw [hE, hrw, hR, ← hR'])
      generalize hraw0 : PkM.sl L (1032 + 20 * j) 20 = raw at hraw hc hst hh0 ⊢
      generalize hcc : PkM.hd0 raw = c at hc hst ⊢
      have g1 : IntKind.i64.wrap (IntKind.i64.wrap (c : Int) + 1) = ((c + 1 : Nat) : Int) := by rw [wrap_i64 (x := (c : Int)) (by omega) (by omega), wrap_i64 (by omega) (by omega)]; omega
      rw [g1]
      simp only [Int.toNat_natCast, add_lit]
      have hfc := hi19.fanC (c := c) (by omega)
      have hfc1 := hi19.fanC (c := c + 1) (by omega)
      have tailC : ¬ (0 < j ∧ ¬ PkM.sl L (1032 + 20 * j - 20) 20 < raw) → ((0 : Int) ≤ 0 ∧ 0 < ((s.extract (1032 + 20 * j) (1032 + 20 * j + 20)).size : Int)) ∧ ((0 ≤ (c : Int) ∧ (c : Int) < ((257 : Nat) : Int)) ∧ ∃ n22 : Int, w19.cell? ⟨b, 1 + c * 1, none⟩ = some (.int .i64 n22) ∧
          ((decide ((j : Int) < n22) = true → ∀ w23, Drew w19 w23 → ParseR L w (.tuple #[.pointer none, .int .i64 3]) w23) ∧
           (decide ((j : Int) < n22) = false → ((0 : Int) ≤ 0 ∧ 0 < ((s.extract (1032 + 20 * j) (1032 + 20 * j + 20)).size : Int)) ∧ ((0 ≤ ((c + 1 : Nat) : Int) ∧ ((c + 1 : Nat) : Int) < ((257 : Nat) : Int)) ∧ ∃ n24 : Int, w19.cell? ⟨b, 1 + (c + 1) * 1, none⟩ = some (.int .i64 n24) ∧ ∀ w25, Drew w19 w25 →
            ((decide ((j : Int) ≥ n24) = true → ParseR L w (.tuple #[.pointer none, .int .i64 3]) w25) ∧
             (decide ((j : Int) ≥ n24) = false → Fr (fun _ => False) w19 w25 ∧ ¬ (0 < j ∧ ¬ PkM.sl L (1032 + 20 * j - 20) 20 < raw) ∧ ¬ j < PkM.fanB L c ∧ ¬ PkM.fanB L (c + 1) ≤ j)))))) := fun hno => by
        rw [if_neg hno] at hst
        refine ⟨⟨by decide, by omega⟩, ⟨by omega, by omega⟩, _, hfc, fun h w23 d23 => stop (hf19.trans' (.drew _ d23)) ?_, fun h => ⟨⟨by decide, by omega⟩, ⟨by omega, by omega⟩, _, hfc1, fun w25 d25 => ⟨fun h2 => stop (hf19.trans' (.drew _ d25)) ?_, fun h2 => ⟨.drew _ d25, hno, ?_, ?_⟩⟩⟩⟩
        · rw [hst, if_pos (by have := of_decide_eq_true h; omega)]
        · rw [hst, if_neg (by have := of_decide_eq_false h; omega), if_pos (by have := of_decide_eq_true h2; omega)]
        · have := of_decide_eq_false h; omega
        · have := of_decide_eq_false h2; omega
      refine ⟨⟨by omega, by omega, by omega⟩, fun w' => Fr (fun _ => False) w19 w' ∧ ¬ (0 < j ∧ ¬ PkM.sl L (1032 + 20 * j - 20) 20 < raw) ∧ ¬ j < PkM.fanB L c ∧ ¬ PkM.fanB L (c + 1) ≤ j, ⟨fun h0 => ⟨⟨by omega, by omega, by omega⟩, fun hl w21 d21 => stop (hf19.trans' (.drew _ d21)) ?_, fun hl => tailC ?_⟩, fun h0 => tailC ?_⟩, ?_⟩
      · have h0 : 0 < j := by have := of_decide_eq_true h0; omega
        rw [ByteArray.toList_eq, ByteArray.toList_eq, Proofs.bytesLess_eq, hprev h0, hraw] at hl
        have hl' : ¬ PkM.sl L (1032 + 20 * j - 20) 20 < raw := by simpa using hl
        rw [hst, if_pos ⟨h0, hl'⟩]
      · have h0 : 0 < j := by have := of_decide_eq_true h0; omega
        rw [ByteArray.toList_eq, ByteArray.toList_eq, Proofs.bytesLess_eq, hprev h0, hraw] at hl
        have hl' : PkM.sl L (1032 + 20 * j - 20) 20 < raw := by simpa using hl
        exact fun hh => hh.2 hl'
      · have h0 := of_decide_eq_false h0
        exact fun hh => by omega
      rintro w30 ⟨hf30, ok1, ok2, ok3⟩
      rw [if_neg ok1, if_neg ok2, if_neg ok3] at hst
      have hF30 := hf19.trans' hf30
      refine ⟨⟨by omega, by omega, by omega⟩, (frombig_spec _ (by rw [ByteArray.size_extract]; omega) w30).mono ?_⟩
      rintro e w32 ⟨rfl, hw⟩
      replace hw := hw.symm
      subst hw
      rw [ex]
      have hvl : num8 (PkM.sl L (1032 + 24 * n + 4 * j) 4) < 4294967296 := num8_lt 4 _ (PkM.sl_len (by omega))
      generalize num8 (PkM.sl L (1032 + 24 * n + 4 * j) 4) = v at hvl hst ⊢
      have hpl := PkM.placeE.eq_1 (PkM.farL L n) v
      rw [hfll] at hpl
      refine ⟨_, rfl, fun q w' => ∃ a : Nat, q = a ∧ a < 18446744073709551616 ∧ PkM.placeE (PkM.farL L n) v = .ok a ∧ Fr (fun _ => False) w19 w', ⟨fun h => ⟨by decide, ?_⟩, fun h => ⟨v, rfl, by omega, by rw [hpl, if_pos (by have := of_decide_eq_false h; omega)], hf30⟩⟩, ?_⟩
      · have h := of_decide_eq_true h
        have q1 : IntKind.i64.wrap (IntKind.u64.wrap ((v : Int) - 2147483648)) = ((v - 2147483648 : Nat) : Int) := by rw [wrap_u64 (by omega) (by omega), wrap_i64 (by omega) (by omega)]; omega
        rw [if_neg (by omega)] at hpl
        obtain ⟨u, hu⟩ : ∃ u, v - 2147483648 = u := ⟨_, rfl⟩
        rw [hu] at q1 hpl
        rw [q1]
        clear q1
        refine ⟨fun h2 => stop hF30 (by rw [hst, hpl, if_pos (by have := of_decide_eq_true h2; omega)]), fun h2 => ?_⟩
        have h2 := of_decide_eq_false h2
        have hk2 : u < (L.length - (1072 + 28 * n)) / 8 := by omega
        rw [if_neg (by omega)] at hpl
        have q2 : IntKind.i64.wrap (8 * ((u : Nat) : Int)) = ((8 * u : Nat) : Int) := by rw [wrap_i64 (by omega) (by omega)]; omega
        have q3 : IntKind.i64.wrap (((8 * u : Nat) : Int) + 8) = ((8 * u + 8 : Nat) : Int) := by rw [wrap_i64 (by omega) (by omega)]; omega
        rw [q2, q3, Int.toNat_natCast, Int.toNat_natCast]
        refine ⟨⟨by omega, by omega, by omega⟩, (frombig_spec _ (by rw [ByteArray.size_extract]; omega) w30).mono ?_⟩
        rintro e w36 ⟨rfl, hw⟩
        replace hw := hw.symm
        subst hw
        rw [exf]
        have h64 := num8_lt 8 _ (PkM.sl_len (L := PkM.farL L n) (i := 8 * u) (n := 8) (by omega))
        rw [show (256 : Nat) ^ 8 = 18446744073709551616 by decide] at h64
        exact ⟨_, rfl, _, rfl, h64, hpl, hf30⟩
      rintro q w39 ⟨a, rfl, hal, hpla, hf39⟩
      rw [hpla] at hst
      simp only at hst
      have hF39 := hf19.trans' hf39
      refine ⟨fun h => stop hF39 (by rw [hst, if_pos (by have := of_decide_eq_true h; omega)]), fun h w40 d40 => ?_⟩
      have ha : a ≤ 1099511627776 := by have := of_decide_eq_false h; omega
      rw [if_neg (by omega)] at hst
      have hf40 := hf39.trans' (.drew _ d40)
      have hF40 := hf19.trans' hf40
      have hi40 := hi19.keep hf40 (by simp)
      have ho40 := ho19.keep hf40 (by simp)
      refine ⟨fun w' => IdxAt w' b l (PkM.fanB L) ⟨#[]⟩, hi40, l, fun w43 h43 => h43.rowsC, ⟨by omega, by omega, by omega⟩, (hex_spec (s.extract (1032 + 20 * j) (1032 + 20 * j + 20)) (by omega) w40).mono ?_⟩
      rintro e w45 ⟨rfl, hf45⟩
      rw [hraw]
      refine ⟨_, rfl, hi40.keep hf45 (by simp), (frombig_spec _ (by rw [ByteArray.size_extract]; omega) w45).mono ?_⟩
      rintro e w48 ⟨rfl, hw⟩
      replace hw := hw.symm
      subst hw
      rw [ex]
      have hcl : num8 (PkM.sl L (1032 + 20 * n + 4 * j) 4) < 4294967296 := num8_lt 4 _ (PkM.sl_len (by omega))
      generalize num8 (PkM.sl L (1032 + 20 * n + 4 * j) 4) = crc at hcl hst ⊢
      have hF45 := hF40.trans' hf45
      have hi45 := hi40.keep hf45 (by simp)
      have ho45 := ho40.keep hf45 (by simp)
      have hb45 : b + 1 ≤ w45.heap.size := by have := hf40.size; have := hf45.size; omega
      refine ⟨_, rfl, hi45, fun w50 h50 => ?_⟩
      have q4 : IntKind.i64.wrap (a : Int) = (a : Int) := wrap_i64 (by omega) (by omega)
      have q5 : IntKind.u32.wrap (crc : Int) = (crc : Int) := wrap_u32 (by omega) (by omega)
      rw [q4, q5] at h50
      have hdm : (done.map ofRaw).length = j := by rw [List.length_map]; exact hdl
      obtain ⟨w51, l52, hr51, ho51, hf51, _⟩ := append_oneK elP ho45 (x := ofRaw (raw, a, crc)) (by rw [hdm]; simp only [maxLen]; omega) (by rw [hdm]; omega) hb45 h50
      have hnb : ∀ x, l.a = some x → x.block ≠ b := fun x hx => by have := (ho45.blk hx).1; omega
      have hi51 : IdxAt w51 b l (PkM.fanB L) ⟨#[]⟩ := hi45.keep hf51 fun ⟨y, hy, e⟩ => hnb y hy e.symm
      have hi50 : IdxAt w50 b l (PkM.fanB L) ⟨#[]⟩ := by rw [h50]; exact hi45.keep (.alloc (fun _ => False) _ _) (by simp)
      have hF51 : Fr (fun _ => False) w w51 := hF45.trans hf51 fun q hq ⟨y, hy, e⟩ => by have := (ho45.blk hy).1; omega
      refine ⟨hi50, w51, l52, hr51, hi51, hi51.wr (by omega), fun w53 h53 => ?_⟩
      have hi53 : IdxAt w53 b l52 (PkM.fanB L) ⟨#[]⟩ := by rw [h53]; exact hi51.setRows l52
      have hf53 : Fr (· = b) w51 w53 := by rw [h53]; exact Fr.set _ _ _ rfl
      have ho53 := ho51.keep hf53 fun x hx e => by have := (ho51.blk hx).1; omega
      refine ⟨⟨j + 1, l52, done ++ [(raw, a, crc)], rfl, by omega, hi53, by rw [List.map_append]; exact ho53, by rw [List.length_append, hdl]; rfl, ?_, hset hF51 hf53, ?_⟩, by omega⟩
      · rw [hst] at hR'
        simp only at hR'
        rw [hrw, hR, ← hR', show n - (j + 1) = n - j - 1 by omega]
        cases PkM.rowsE L n (j + 1) (n - j - 1) with
        | error e => rfl
        | ok rs => simp
      · have h1 := hf51.size
        have h2 := hf53.size
        omega
    · have hge := of_decide_eq_false hge
      have hjn : j = n := by omega
      subst hjn
      have hrw' : PkM.rowsE L j 0 j = .ok done := by
        rw [hrw, Nat.sub_self, PkM.rowsE]
        simp
      rw [hrw'] at hE
      simp only at hE
      have hf54 := hf19.trans' (.drew _ d54)
      have hi54 := hi19.keep (.drew (fun _ => False) d54) (by simp)
      have ho54 := ho19.drew d54
      refine ⟨fun _ => True, trivial, ⟨by omega, by omega⟩, ⟨by omega, by omega⟩, (sum1_spec _ (by rw [ByteArray.size_extract]; omega) w54).mono ?_⟩
      rintro e w57 ⟨rfl, hf57⟩
      have hF57 := hf54.trans' hf57
      have hhead : (s.extract 0 (s.size - 20)).data.toList = L.take (L.length - 20) := by rw [bs_head, hL, hsz]
      have htail : (s.extract (s.size - 20) s.size).data.toList = L.drop (L.length - 20) := by rw [bs_tail, hL, hsz]
      rw [hhead]
      have hdec : decide ((⟨(digest block1 start1 (L.take (L.length - 20))).toArray⟩ : ByteArray) = s.extract (s.size - 20) s.size) = decide (sha1D (L.take (L.length - 20)) = L.drop (L.length - 20)) := decide_eq_decide.2 ⟨fun e => by
          have := congrArg (fun x : ByteArray => x.data.toList) e
          dsimp only at this
          rw [← htail]; exact this, fun e => bs_ext (by rw [bs_mk, htail]; exact e)⟩
      refine ⟨_, rfl, trivial, ?_⟩
      rw [bs_eq, hdec]
      refine ⟨fun h => bad (k := 5) hF57 (by rw [hE, if_pos (by simpa using h)]), fun h => ⟨⟨by omega, by omega, by omega⟩, (hex_spec _ (by rw [ByteArray.size_extract]; omega) w57).mono ?_⟩⟩
      rw [if_neg (by simpa using h)] at hE
      rintro e w60 ⟨rfl, hf60⟩
      have hsum : (s.extract (s.size - 40) (s.size - 20)).data.toList = PkM.sl L (L.length - 40) 20 := by
        have h1 := ex (s.size - 40) 20
        have h2 : s.size - 40 + 20 = s.size - 20 := by omega
        rw [h2] at h1
        rw [h1, hsz]
      rw [hsum]
      have hi60 := (hi54.keep hf57 (by simp)).keep hf60 (by simp)
      have ho60 := (ho54.keep hf57 (by simp)).keep hf60 (by simp)
      refine ⟨_, rfl, hi60.wr (by omega), fun w62 h62 => ?_⟩
      have hf62 : Fr (· = b) w60 w62 := by rw [h62]; exact Fr.set _ _ _ rfl
      refine ⟨hset (hF57.trans' hf60) hf62, ?_⟩
      rw [hE]
      refine ⟨b, rfl, by omega, ⟨l, _, by rw [h62]; exact hi60.setSum _, (ho60.keep hf62 fun x hx e => by have := (ho60.blk hx).1; omega).reads fun _ => rfl, ho60.1⟩⟩
end Go.Proofs.Ytoagdpjickippaa
