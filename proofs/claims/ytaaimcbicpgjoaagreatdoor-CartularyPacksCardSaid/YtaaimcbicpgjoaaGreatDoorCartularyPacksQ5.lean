/- Texts of this seat in one: made by a program of ours. -/
import Derived.Test.YtaaimcbicpgjoaaGreatDoorCartularyPacksQ0
import Derived.Test.YtaaimcbicpgjoaaGreatDoorCartularyPacksQ1
import Derived.Test.YtaaimcbicpgjoaaGreatDoorCartularyPacksQ3
import Derived.Test.YtaaimcbicpgjoaaGreatDoorCartularyPacksQ4
import Derived.Test.YtaaimcbicpgjoaaGreatDoorProg
import Derived.Shelf.Small.Strs
import Derived.Sort.Walk0
import Derived.Shelf.Lays
import Derived.Shelf.Strings.BuilderX
import Derived.Shelf.SlSortCmp.WholeK
import Derived.Shelf.SlSortCmp.NoneTotal
/- Unhex and Id. Conditions: as named. -/
set_option linter.unusedVariables false
namespace Go.Proofs.YtaaimcbicpgjoaaGreatDoor
open Go Vc HexM Go.Proofs

theorem digit_spec (c : Nat) (hc : c < 256) (w : World) : Calls Tryz.prog F_sums_digit #[.int .u8 (c : Int)] w fun e w' => e = .returned (.int .i64 (match dg c with | some n => (n : Int) | none => -1)) ∧ w' = w := by
  refine vc_sums_digit_ok (R := fun v w' => v = .int .i64 (match dg c with | some n => (n : Int) | none => -1) ∧ w' = w) ?_ (fun v w' h => ⟨by rw [h.1], h.2⟩)
  refine ⟨fun b w' => b = decide (48 ≤ c ∧ c ≤ 57) ∧ w' = w, ⟨fun h => ⟨?_, rfl⟩, fun h => ⟨?_, rfl⟩⟩, ?_⟩
  · have h := of_decide_eq_true h
    exact decide_eq_decide.2 ⟨fun _ => ⟨by omega, by omega⟩, fun _ => by omega⟩
  · have h := of_decide_eq_false h
    rw [decide_eq_false (by omega)]
  · rintro b w3 ⟨rfl, rfl⟩
    unfold dg
    refine ⟨fun h => ?_, fun h => ⟨fun h2 => ⟨fun h3 => ?_, fun h3 => ?_⟩, fun h2 => ?_⟩⟩
    · have h := of_decide_eq_true h
      rw [if_pos h, wrap_u8 (by omega) (by omega), wrap_i64 (by omega) (by omega)]
      exact ⟨by congr 1; simp only; omega, rfl⟩
    · have h := of_decide_eq_false h
      have h2 := of_decide_eq_true h2
      have h3 := of_decide_eq_true h3
      rw [if_neg h, if_pos (by omega), wrap_u8 (by omega) (by omega), wrap_i64 (x := (c : Int) - 97) (by omega) (by omega), wrap_i64 (by omega) (by omega)]
      exact ⟨by congr 1; simp only; omega, rfl⟩
    · have h := of_decide_eq_false h
      have h3 := of_decide_eq_false h3
      rw [if_neg h, if_neg (by omega)]
      exact ⟨rfl, rfl⟩
    · have h := of_decide_eq_false h
      have h2 := of_decide_eq_false h2
      rw [if_neg h, if_neg (by omega)]
      exact ⟨rfl, rfl⟩
def unhexS (s : ByteArray) : ByteArray := match unhexL s.data.toList with | some l => ⟨l.toArray⟩ | none => ⟨#[]⟩
/-- 'Unhex'. -/
theorem unhex_spec (s : ByteArray) (hs : s.size ≤ 140737488355328) (w : World) : Calls Tryz.prog F_sums_Unhex #[.string s] w fun e w' => e = .returned (.tuple #[.string (unhexS s), .bool (unhexL s.data.toList).isSome]) ∧ Fr (fun _ => False) w w' := by
  refine vc_sums_Unhex_ok (R := fun v w' => v = .tuple #[.string (unhexS s), .bool (unhexL s.data.toList).isSome] ∧ Fr (fun _ => False) w w') ?_ (fun v w' h => ⟨by rw [h.1], h.2⟩)
  have hbad : ∀ {w' : World} {k : Nat}, k < s.size → dg (byt s k) = none → Fr (fun _ => False) w w' → (Value.tuple #[.string ⟨#[]⟩, .bool false] = .tuple #[.string (unhexS s), .bool (unhexL s.data.toList).isSome] ∧ Fr (fun _ => False) w w') := fun {w' k} hk hd hf => by
    have := unhexL_bad k s.data.toList _ (bs_get hk) (by rw [toNat_of _ (byt_lt _ _)]; exact hd)
    unfold unhexS
    rw [this]
    exact ⟨rfl, hf⟩
  refine ⟨fun l n w' => ∃ k r, n = ((2 * k : Nat) : Int) ∧ 2 * k ≤ s.size ∧ unhexL (s.data.toList.take (2 * k)) = some r ∧ Vc.Own w' w.heap.size T_uint8 l (byteV r) ∧ Fr (fun _ => False) w w', fun _ n _ => s.size - n.toNat, ⟨0, [], rfl, Nat.zero_le _, rfl, .nil _ _ _, .refl _ _⟩, ?_⟩
  rintro l3 n w5 ⟨k, r, rfl, hk, hr, ho, hf⟩
  have e1 : IntKind.i64.wrap (((2 * k : Nat) : Int) + 1) = ((2 * k + 1 : Nat) : Int) := by rw [wrap_i64 (by omega) (by omega)]; omega
  have e2 : IntKind.i64.wrap (((2 * k : Nat) : Int) + 2) = ((2 * (k + 1) : Nat) : Int) := by rw [wrap_i64 (by omega) (by omega)]; omega
  rw [e1, e2]
  have hrl : r.length = k := by
    have := unhexL_len _ _ hr
    rw [List.length_take, bs_len] at this; omega
  refine ⟨fun hlt w6 d6 => ?_, fun hge => ?_⟩
  · have hlt := of_decide_eq_true hlt
    rw [byteAt_nat, byteAt_nat]
    have hf6 : Fr (fun _ => False) w w6 := hf.trans' (.drew _ d6)
    refine ⟨fun _ => True, trivial, ⟨by omega, by omega⟩, ⟨by omega, by omega⟩, (digit_spec _ (byt_lt _ _) w6).mono ?_⟩
    rintro e w9 ⟨rfl, hw⟩
    replace hw := hw.symm
    subst hw
    refine ⟨_, rfl, trivial, (digit_spec _ (byt_lt _ _) w6).mono ?_⟩
    rintro e w12 ⟨rfl, hw⟩
    replace hw := hw.symm
    subst hw
    refine ⟨_, rfl, trivial, fun h => ?_, fun h => ⟨fun h2 => ?_, fun h2 => ⟨by decide, fun w14 h14 => ?_⟩⟩⟩
    · have h := of_decide_eq_true h
      cases hd : dg (byt s (2 * k)) with
      | none => exact hbad (k := 2 * k) (by omega) hd hf6
      | some x => rw [hd] at h; simp only at h; omega
    · have h2 := of_decide_eq_true h2
      cases hd : dg (byt s (2 * k + 1)) with
      | none => exact hbad (k := 2 * k + 1) (by omega) hd hf6
      | some x => rw [hd] at h2; simp only at h2; omega
    · have h := of_decide_eq_false h
      have h2 := of_decide_eq_false h2
      cases hd : dg (byt s (2 * k)) with
      | none => rw [hd] at h; simp at h
      | some x =>
        cases hd2 : dg (byt s (2 * k + 1)) with
        | none => rw [hd2] at h2; simp at h2
        | some y =>
          have hx1 := dg_lt hd
          have hy1 := dg_lt hd2
          have hor : 2 ^ 4 * x ||| y = 2 ^ 4 * x + y := (Nat.two_pow_add_eq_or_of_lt hy1 _).symm
          have ev : IntKind.u8.wrap (IntKind.i64.wrap (((BitVec.ofInt 64 (IntKind.i64.wrap ((x : Int) * 2 ^ min (Int.toNat 4) 64)) ||| BitVec.ofInt 64 (y : Int)).toNat : Nat) : Int)) = ((16 * x + y : Nat) : Int) := by
            rw [show (x : Int) * 2 ^ min (Int.toNat 4) 64 = ((2 ^ 4 * x : Nat) : Int) by rw [show (2 : Int) ^ min (Int.toNat 4) 64 = ((2 ^ 4 : Nat) : Int) from rfl, ← Int.natCast_mul, Nat.mul_comm], wrap_i64 (x := ((2 ^ 4 * x : Nat) : Int)) (by omega) (by omega), or_nat 64 _ _ (by omega) (by omega), hor, wrap_i64 (by omega) (by omega), wrap_u8 (by omega) (by omega)]
          rw [hd, hd2] at h14
          simp only at h14
          rw [ev] at h14
          obtain ⟨w15, l16, hr15, ho15, hf15, _⟩ := append_one' elByteH (ho.drew d6) (v := .int .u8 ((16 * x + y : Nat) : Int)) rfl (by rw [bv_len, hrl]; unfold maxLen; omega) (by rw [bv_len, hrl]; omega) hf6.size h14
          have ht := unhexL_take k s.data.toList r hr (by rw [bs_len]; omega) _ _ (bs_get (by omega)) (bs_get (by omega))
          rw [toNat_of _ (byt_lt _ _), toNat_of _ (byt_lt _ _), hd, hd2] at ht
          refine ⟨w15, l16, hr15, ⟨k + 1, _, rfl, by omega, ht, ?_, ?_⟩, by dsimp only; omega⟩
          · rw [← bv_snoc _ _ (by omega)]; exact ho15
          · exact hf6.trans hf15 fun q hq ⟨y, hy, e⟩ => by
              have := (ho.blk hy).1; omega
  · have hge := of_decide_eq_false hge
    have hm : Int.tmod (s.size : Int) 2 = ((s.size % 2 : Nat) : Int) := by rw [show (2 : Int) = ((2 : Nat) : Int) from rfl, Int.ofNat_tmod]
    rw [hm]
    refine ⟨by decide, fun h => ?_, fun h => ?_⟩
    · have h : ((s.size % 2 : Nat) : Int) ≠ 0 := by simpa using h
      have := unhexL_iff s.data.toList
      rw [bs_len, show (s.size % 2 == 0) = false by rw [beq_eq_false_iff_ne]; omega, Bool.and_false] at this
      have hn : unhexL s.data.toList = none := by simpa using this
      unfold unhexS
      rw [hn]
      exact ⟨rfl, hf⟩
    · have h : ((s.size % 2 : Nat) : Int) = 0 := by simpa using h
      have hks : 2 * k = s.size := by omega
      rw [hks, bs_all] at hr
      refine ⟨_, _, bytes_str (e := T_uint8) (by kernel_rfl) (by kernel_rfl) (by kernel_rfl) l3.cap ho.reads (by rw [ho.len, bv_len]), ?_, hf⟩
      unfold unhexS
      rw [hr]; rfl
/-- 'Id'. -/
theorem id_spec (s : ByteArray) (hs : s.size ≤ 140737488355328) (w : World) : Calls Tryz.prog F_sums_Id #[.string s] w fun e w' => e = .returned (.bool (isId s.data.toList)) ∧ Fr (fun _ => False) w w' := by
  refine vc_sums_Id_ok (R := fun v w' => v = .bool (isId s.data.toList) ∧ Fr (fun _ => False) w w') ?_ (fun v w' h => ⟨by rw [h.1], h.2⟩)
  refine (unhex_spec s hs w).mono ?_
  rintro e w2 ⟨rfl, hf⟩
  refine ⟨_, _, rfl, fun h => ⟨?_, hf⟩, fun h => ⟨?_, hf⟩⟩
  · unfold isId
    rw [h, Bool.true_and, bs_len]
    congr 1
    rw [Bool.eq_iff_iff, beq_iff_eq, beq_iff_eq]; omega
  · unfold isId; rw [h]; rfl
end Go.Proofs.YtaaimcbicpgjoaaGreatDoor

/- pack.Build: an error, or the pack of the items' entries. Conditions: at most twelve items of at most 400 bytes; Itoa's table is as laid. -/
set_option linter.unusedVariables false
namespace Go.Proofs.YtaaimcbicpgjoaaGreatDoor
open Go Vc HexM SumM ShaM Go.Proofs

/-- An entry. -/
structure EnP where
  kd : Nat
  ex : List UInt8
  st : List UInt8
  D : ByteArray
def bytesP (e : EnP) : List UInt8 := entL e.kd e.ex e.st e.D.data.toList
structure OkE (F : Nat) (e : EnP) : Prop where
  ex : ExtraP F e.kd e.ex
  D : e.D.size < 2048
  st : DefM.Stream e.st e.D.data.toList
  len : (bytesP e).length ≤ 1700
theorem OkE.pos {F : Nat} {e : EnP} (h : OkE F e) : 1 ≤ (bytesP e).length := by
  unfold bytesP entL
  rw [List.length_append]
  have := (headL_len e.kd e.D.data.toList.length).2
  omega
def OkEs : Nat → List EnP → Prop
  | _, [] => True
  | F, e :: r => OkE F e ∧ OkEs (F + (bytesP e).length) r
theorem okEs_snoc {e : EnP} : ∀ (F : Nat) (es : List EnP), OkEs F es → OkE (F + (es.flatMap bytesP).length) e → OkEs F (es ++ [e])
  | F, [], _, h => ⟨by simpa using h, trivial⟩
  | F, x :: r, h, h2 => ⟨h.1, okEs_snoc _ r h.2 (by rw [List.flatMap_cons, List.length_append, ← Nat.add_assoc] at h2; exact h2)⟩
theorem okEs_len : ∀ (F : Nat) (es : List EnP), OkEs F es → (es.flatMap bytesP).length ≤ 1700 * es.length
  | F, [], _ => Nat.le_refl _
  | F, x :: r, h => by
    have h1 := okEs_len _ r h.2
    have h2 := h.1.len
    rw [List.flatMap_cons, List.length_append, List.length_cons]
    omega
def posL : Nat → List EnP → List Nat
  | _, [] => []
  | F, e :: r => F :: posL (F + (bytesP e).length) r
theorem posL_len : ∀ (F : Nat) (es : List EnP), (posL F es).length = es.length
  | _, [] => rfl
  | F, e :: r => by rw [posL, List.length_cons, List.length_cons, posL_len]
theorem posL_snoc (e : EnP) : ∀ (F : Nat) (es : List EnP), posL F (es ++ [e]) = posL F es ++ [F + (es.flatMap bytesP).length]
  | F, [] => by simp [posL]
  | F, x :: r => by
    rw [List.cons_append, posL, posL, posL_snoc e _ r, List.flatMap_cons, List.length_append, ← Nat.add_assoc]; rfl
theorem posL_lt : ∀ (F : Nat) (es : List EnP), OkEs F es → ∀ p ∈ posL F es, F ≤ p ∧ p < F + (es.flatMap bytesP).length
  | F, [], _, p, h => by simp [posL] at h
  | F, x :: r, h, p, hp => by
    have h1 := h.1.pos
    rw [List.flatMap_cons, List.length_append]
    rcases List.mem_cons.1 hp with rfl | hp
    · omega
    · have := posL_lt _ r h.2 p hp
      omega
def atsV (l : List Nat) : List Value := l.map fun p : Nat => Value.int .i64 ((p : Nat) : Int)
theorem elIntP : El Tryz.prog T_S_int T_int (.int .i64 0) 8 := ⟨by kernel_rfl, by kernel_rfl, rfl⟩
def hdrP (n : Nat) : List UInt8 := [80, 65, 67, 75] ++ (bigB 4 2 ++ bigB 4 n)
theorem hdrP_len (n : Nat) : (hdrP n).length = 12 := by
  unfold hdrP
  simp only [List.length_append, bigB_length, List.length_cons, List.length_nil]
def packL (n : Nat) (es : List EnP) : List UInt8 := hdrP n ++ es.flatMap bytesP
def shaL (t : List UInt8) : List UInt8 := digest block1 start1 t
theorem shaL_len (t : List UInt8) : (shaL t).length = 20 := dig1_len t
/-- What stands when i items are written. -/
def LoopB (xs : List ItP) (n : Nat) (w : World) (s : ByteArray) (l : Sl) (m : Int) (w' : World) : Prop := ∃ (i : Nat) (es : List EnP), m = i ∧ i ≤ n ∧ es.length = i ∧ OkEs 12 es ∧ (∀ x ∈ xs.take i, isKind x.k) ∧ s.data.toList = packL n es ∧
  Vc.Own w' w.heap.size T_int l (atsV (posL 12 es)) ∧ Fr (fun _ => False) w w'
theorem unhexS_len {id : ByteArray} (h : isId id.data.toList = true) : (unhexS id).size = 20 := by
  unfold isId at h
  rw [Bool.and_eq_true] at h
  obtain ⟨r, hr⟩ := Option.isSome_iff_exists.1 h.1
  have h40 : id.data.toList.length = 40 := eq_of_beq h.2
  have hl := unhexL_len _ _ hr
  unfold unhexS
  rw [hr]
  show (⟨r.toArray⟩ : ByteArray).size = 20
  rw [bs_mksize]
  omega
theorem frame_len (st d : List UInt8) : (frameS st d).length = st.length + 6 := by
  unfold frameS
  simp only [List.length_append, bigB_length, List.length_cons, List.length_nil]
  omega
set_option maxHeartbeats 3200000 in
theorem pbuild_spec {w : World} {a : Option Addr} {n c : Nat} {xs : List ItP} (hr : ReadsK encIt 5 w a xs) (hn : xs.length = n) (hl : n ≤ 12) (hd : ∀ x ∈ xs, x.d.size ≤ 400) (ht : Tab10 w) : Calls Tryz.prog F_pack_Build #[.slice a n c] w fun e w' => Fr (fun _ => False) w w' ∧
    ((∃ k : Int, k ≠ 0 ∧ 0 < n ∧ e = .returned (.tuple #[.string ⟨#[]⟩, .int .i64 k])) ∨ ∃ es : List EnP, es.length = n ∧ OkEs 12 es ∧ (∀ x ∈ xs, isKind x.k) ∧ e = .returned (.tuple #[.string ⟨(packL n es ++ shaL (packL n es)).toArray⟩, .int .i64 0])) := by
  refine vc_pack_Build_ok (R := fun v w' => Fr (fun _ => False) w w' ∧ ((∃ k : Int, k ≠ 0 ∧ 0 < n ∧ v = .tuple #[.string ⟨#[]⟩, .int .i64 k]) ∨ ∃ es : List EnP, es.length = n ∧ OkEs 12 es ∧ (∀ x ∈ xs, isKind x.k) ∧ v = .tuple #[.string ⟨(packL n es ++ shaL (packL n es)).toArray⟩, .int .i64 0])) ?_
    (fun v w' h => ⟨h.1, h.2.imp (fun ⟨k, h1, h0, h2⟩ => ⟨k, h1, h0, by rw [h2]⟩) (fun ⟨es, h1, h2, h3, h4⟩ => ⟨es, h1, h2, h3, by rw [h4]⟩)⟩)
  refine ⟨fun h => absurd (of_decide_eq_true h) (by omega), fun _ => (big_spec 2 4 (by decide) (by decide) w).mono ?_⟩
  rintro e w2 ⟨rfl, f2⟩
  have b4 : ∀ x, (⟨(bigB 4 x).toArray⟩ : ByteArray).size = 4 := fun x => by rw [bs_mksize, bigB_length]
  refine ⟨_, rfl, Nat.le_trans (Nat.add_le_add (Nat.le_of_eq (rfl : _ = 4)) (Nat.le_of_eq (b4 2))) (by decide), ?_⟩
  rw [wrap_u64 (by omega) (by omega)]
  refine (big_spec n 4 (by omega) (by decide) w2).mono ?_
  rintro e w5 ⟨rfl, f5⟩
  refine ⟨_, rfl, ?_, LoopB xs n w, fun _ _ m _ => n - m.toNat, ⟨0, [], rfl, Nat.zero_le _, rfl, trivial, by simp, ?_, Vc.Own.nil _ _ _, f2.trans' f5⟩, ?_⟩
  · rw [ByteArray.size_append, b4, b4]
    exact Nat.le_trans (Nat.add_le_add (Nat.add_le_add (Nat.le_of_eq (rfl : _ = 4)) (Nat.le_refl _)) (Nat.le_refl _)) (by decide)
  · rw [bs_app, bs_app, bs_mk, bs_mk]
    unfold packL hdrP
    simp
  rintro s9 l10 m w12 ⟨i, es, rfl, hi, hel, hok, hkds, hs9, o12, f12⟩
  have htot := okEs_len 12 es hok
  have hs9s : s9.size = 12 + (es.flatMap bytesP).length := by rw [← bs_len, hs9]; unfold packL; rw [List.length_append, hdrP_len]
  refine ⟨fun hlt => ?_, fun hge => ?_⟩
  · have hlt := of_decide_eq_true hlt
    have hil : i < xs.length := by omega
    have bad : ∀ (k : Int) (w' : World), k ≠ 0 → Fr (fun _ => False) w w' → Fr (fun _ => False) w w' ∧ ((∃ k' : Int, k' ≠ 0 ∧ 0 < n ∧ Value.tuple #[.string ⟨#[]⟩, .int .i64 k] = .tuple #[.string ⟨#[]⟩, .int .i64 k']) ∨ ∃ es : List EnP, es.length = n ∧ OkEs 12 es ∧ (∀ x ∈ xs, isKind x.k) ∧
        Value.tuple #[.string ⟨#[]⟩, .int .i64 k] = .tuple #[.string ⟨(packL n es ++ shaL (packL n es)).toArray⟩, .int .i64 0]) := fun k w' hk hf => ⟨hf, .inl ⟨k, hk, by omega, rfl⟩⟩
    have hx : xs[i]? = some xs[i] := List.getElem?_eq_getElem hil
    have htk : xs.take (i + 1) = xs.take i ++ [xs[i]] := (List.take_append_getElem hil).symm
    have hxd := hd _ (List.getElem_mem hil)
    generalize xs[i] = x at hx htk hxd
    obtain ⟨ad, had, hld⟩ := (hr.keep f12 (by simp)).load elIt hx
    have e1 : IntKind.i64.wrap ((i : Int) + 1) = ((i + 1 : Nat) : Int) := by rw [wrap_i64 (by omega) (by omega)]; omega
    rw [e1, Int.toNat_natCast]
    refine ⟨⟨by omega, by omega⟩, ad, had, x.k, x.d, x.del, x.base, x.nm, hld, fun w19 h19 => ?_⟩
    have f19 : Fr (fun _ => False) w12 w19 := by rw [h19]; exact .alloc _ _ _
    have hb19 : w19.heap[w12.heap.size]? = some (.cells #[.int .i64 0, .string ⟨#[]⟩, .bool false, .int .i64 0, .bool false] T_pack_Item (0, 0)) := by rw [h19]; exact alloc_new _ _
    clear h19
    obtain ⟨w20, hr20, hb20, f20⟩ := boxI_store hb19 rfl x
    generalize hA : w12.heap.size = A at hb19 hb20 f20 hr20 ⊢
    have f12_20 : Fr (fun _ => False) w12 w20 := f19.trans f20 fun q hq e => by omega
    have objx : ∀ {w' : World}, w'.heap[A]? = some (.cells (encIt x).toArray T_pack_Item (0, 0)) → (loadVar T_api_Object ⟨A, 0, none⟩).run Tryz.prog w' = .ok (.agg #[.int .i64 x.k, .string x.d]) w' := fun h =>
      load_agg (vs := [.int .i64 x.k, .string x.d]) (agg_of (by kernel_rfl)) (by kernel_rfl) fun k v hv => by
        rw [add_lit, Nat.zero_add, cell_blk h]
        match k, hv with
        | 0, hv => exact hv
        | 1, hv => exact hv
        | k + 2, hv => simp at hv
    have cx : ∀ {w' : World}, w'.heap[A]? = some (.cells (encIt x).toArray T_pack_Item (0, 0)) → ∀ {j : Nat} {v : Value}, (encIt x)[j]? = some v → w'.cell? ⟨A, j, none⟩ = some v := fun h j v hv => by rw [cell_blk h]; simpa using hv
    refine ⟨w20, hr20, _, _, objx hb20, (ocheck_spec x.k x.d (by omega) w20).mono ?_⟩
    rintro e w24 ⟨rfl, f24⟩
    have hb24 := f24.keep hb20 (by simp)
    have f12_24 := f12_20.trans' f24
    have g24 := f12.trans' f12_24
    refine ⟨_, rfl, fun hne => bad _ _ (by simpa using hne) g24, fun h0 => ?_⟩
    have hkx : isKind x.k := by
      by_cases h : isKind x.k
      · exact h
      · rw [kname_no h] at h0
        cases h0
    refine ⟨fun w' => w' = w24 ∧ (x.del = true → 0 ≤ x.base ∧ x.base < i), ⟨_, cx hb24 (j := 2) rfl, fun hdl => ⟨_, cx hb24 (j := 3) rfl, fun hb => bad 1 _ (by decide) g24, fun hb => ⟨_, cx hb24 (j := 3) rfl, fun hb' => bad 1 _ (by decide) g24, fun hb' => ⟨rfl, fun _ => ?_⟩⟩⟩, fun hdl => ⟨rfl, fun h => ?_⟩⟩, ?_⟩
    · have := of_decide_eq_false hb
      have := of_decide_eq_false hb'
      omega
    · rw [hdl] at h; cases h
    rintro w30 ⟨hw, hbase⟩
    replace hw := hw.symm
    subst hw
    refine ⟨fun w' => Fr (fun _ => False) w24 w', ⟨_, cx hb24 (j := 2) rfl, fun hdl => ?_, fun _ w38 d38 => .drew _ d38⟩, ?_⟩
    · obtain ⟨hb0, hb1⟩ := hbase hdl
      obtain ⟨j, hj⟩ : ∃ j : Nat, x.base = j := ⟨x.base.toNat, by omega⟩
      have hjl : j < xs.length := by omega
      obtain ⟨ad2, had2, hcy⟩ := (hr.keep g24 (by simp)) j xs[j] (List.getElem?_eq_getElem hjl)
      have hcy0 := hcy 0 (.int .i64 (xs[j]).k) rfl
      rw [show (ad2.add (j * 5)).add 0 = ad2.add (j * 5) by rw [add_add]; rfl] at hcy0
      refine ⟨_, cx hb24 (j := 3) rfl, ⟨by omega, by omega⟩, ad2, had2, _, by rw [hj, Int.toNat_natCast]; exact hcy0, _, cx hb24 (j := 0) rfl, fun w37 d37 => ⟨fun _ => bad 10 _ (by decide) (g24.trans' (.drew _ d37)), fun _ => .drew _ d37⟩⟩
    rintro w39 f39 w40 h40
    have g39 := g24.trans' f39
    have f12_39 := f12_24.trans' f39
    have hpl := posL_len 12 es
    have hilen : (atsV (posL 12 es)).length ≤ 12 := by unfold atsV; rw [List.length_map]; omega
    obtain ⟨w41, l42, hr41, o41, f41, _⟩ := append_one' elIntP (o12.keep f12_39 (by simp)) (v := .int .i64 (s9.size : Int)) rfl (by unfold maxLen; omega) (by omega) g39.size h40
    have nA : ¬ At l10 A := fun ⟨y, hy, e⟩ => by have := (o12.blk hy).2; omega
    have hb39 := f39.keep hb24 (by simp)
    have hb41 := f41.keep hb39 nA
    have f39_41 : Fr (fun _ => False) w w41 := g39.trans f41 fun q hq ⟨y, hy, e⟩ => by have := (o12.blk hy).1; omega
    have hposn : ∀ e : EnP, atsV (posL 12 es) ++ [Value.int .i64 (s9.size : Int)] = atsV (posL 12 (es ++ [e])) := fun e => by
      rw [posL_snoc, hs9s]
      unfold atsV
      rw [List.map_append]; rfl
    have fin : ∀ (e : EnP) (s' : ByteArray) (w' : World), s'.data.toList = bytesP e → OkE (12 + (es.flatMap bytesP).length) e → Fr (fun _ => False) w41 w' → LoopB xs n w (s9 ++ s') ⟨l42.a, l42.len, l42.cap⟩ ((i + 1 : Nat) : Int) w' ∧ n - (((i + 1 : Nat) : Int)).toNat < n - ((i : Int)).toNat := fun e s' w' hs' hoke hf => by
      refine ⟨⟨i + 1, es ++ [e], rfl, by omega, by rw [List.length_append, hel]; rfl, okEs_snoc 12 es hok hoke, fun y hy => ?_, ?_, ?_, f39_41.trans' hf⟩, by omega⟩
      · rw [htk] at hy
        rcases List.mem_append.1 hy with hy | hy
        · exact hkds y hy
        · rw [List.mem_singleton] at hy; subst hy; exact hkx
      · rw [bs_app, hs9, hs']
        unfold packL
        rw [flat_snoc, List.append_assoc]
      · rw [← hposn e]
        exact o41.keep hf (by simp)
    have conv : ∀ {w' : World} {l : Sl} {b : Nat} {bs : List UInt8}, Vc.Own w' b T_uint8 l (byteV bs) → (convert T_S_uint8 T_string (.slice l.a l.len l.cap)).run Tryz.prog w' = .ok (.string ⟨bs.toArray⟩) w' := fun {w' l b bs} ho =>
      bytes_str (e := T_uint8) (by kernel_rfl) (by kernel_rfl) (by kernel_rfl) l.cap ho.reads (by have := ho.len; rw [byteV_length] at this; omega)
    have hsmall : s9.size ≤ 30000 := by omega
    refine ⟨w41, l42, hr41, _, cx hb41 (j := 2) rfl, fun hdl w44 d44 => ?_, fun hdl => ?_⟩
    · have f44 : Fr (fun _ => False) w41 w44 := .drew _ d44
      have hb44 := f44.keep hb41 (by simp)
      obtain ⟨kd, hkd, hkd1, hkd4⟩ : ∃ kd : Nat, x.k = kd ∧ 1 ≤ kd ∧ kd ≤ 4 := ⟨x.k.toNat, by unfold isKind at hkx; omega, by unfold isKind at hkx; omega, by unfold isKind at hkx; omega⟩
      refine ⟨fun w' => Fr (fun _ => False) w44 w', .refl _ _, _, fun w47 h => cx (h.keep hb44 (by simp)) (j := 0) rfl, _, fun w49 h => cx (h.keep hb44 (by simp)) (j := 1) rfl, _, fun w51 h => cx (h.keep hb44 (by simp)) (j := 1) rfl, ?_⟩
      rw [hkd]
      refine (headOf_spec kd x.d.size (by omega) (by omega) w44).mono ?_
      rintro e w53 ⟨l54, rfl, o53, f53⟩
      refine ⟨l54, rfl, fun w' => Fr (fun _ => False) w53 w', fun w56 h => f53.trans' h, .refl _ _, _, fun w58 h => conv (o53.keep h (by simp)), (zwrite_spec x.d (by omega) w53).mono ?_⟩
      rintro e w60 ⟨rfl, hst, hstl, f60⟩
      have hh := headL_len kd x.d.size
      have hfl := frame_len (deflT x.d) x.d.data.toList
      have q1 := bs_mksize (headL kd x.d.size)
      have q2 := bs_mksize (frameS (deflT x.d) x.d.data.toList)
      refine ⟨_, rfl, fun w' => Fr (fun _ => False) w60 w', fun w63 h => f60.trans' h, .refl _ _, by omega, by rw [ByteArray.size_append]; omega, ?_⟩
      have hby : bytesP ⟨kd, [], deflT x.d, x.d⟩ = headL kd x.d.size ++ frameS (deflT x.d) x.d.data.toList := by
        unfold bytesP entL
        rw [bs_len]; rfl
      refine fin ⟨kd, [], deflT x.d, x.d⟩ _ w60 (by rw [bs_app, bs_mk, bs_mk, hby]) ⟨.inl ⟨hkd1, hkd4, rfl⟩, (show x.d.size < 2048 by omega), hst, ?_⟩ ((f44.trans' f53).trans' f60)
      rw [hby, List.length_append]; omega
    · have hdt : x.del = true := by simpa using hdl
      obtain ⟨hb0, hb1⟩ := hbase hdt
      obtain ⟨j, hj⟩ : ∃ j : Nat, x.base = j := ⟨x.base.toNat, by omega⟩
      have hjl : j < xs.length := by omega
      have hyx : xs[j]? = some xs[j] := List.getElem?_eq_getElem hjl
      have hyd := hd _ (List.getElem_mem hjl)
      have hky : isKind (xs[j]).k := hkds _ (List.mem_of_getElem? (i := j) (by rw [List.getElem?_take, if_pos (by omega)]; exact hyx))
      obtain ⟨ad2, had2, hcy⟩ := (hr.keep f39_41 (by simp)) j xs[j] hyx
      generalize xs[j] = y at hyx hyd hky hcy
      have hldy : (loadVar T_api_Object (ad2.add (j * 5))).run Tryz.prog w41 = .ok (.agg #[.int .i64 y.k, .string y.d]) w41 :=
        load_agg (vs := [.int .i64 y.k, .string y.d]) (agg_of (by kernel_rfl)) (by kernel_rfl) fun k v hv => by
          match k, hv with
          | 0, hv => exact hcy 0 v (by simpa [encIt] using hv)
          | 1, hv => exact hcy 1 v (by simpa [encIt] using hv)
          | k + 2, hv => simp at hv
      refine ⟨_, cx hb41 (j := 3) rfl, ⟨by omega, by omega⟩, ad2, had2, y.k, y.d, by rw [hj, Int.toNat_natCast]; exact hldy, fun w68 h68 => ?_⟩
      have f68 : Fr (fun _ => False) w41 w68 := by rw [h68]; exact .alloc _ _ _
      have hbO : w68.heap[w41.heap.size]? = some (.cells #[.int .i64 0, .string ⟨#[]⟩] T_api_Object (0, 0)) := by rw [h68]; exact alloc_new _ _
      clear h68
      obtain ⟨w69, hr69, hb69, f69⟩ := boxO_store hbO rfl y.k y.d
      have f41_69 : Fr (fun _ => False) w41 w69 := f68.trans f69 fun q hq e => by omega
      have hbx69 := f41_69.keep hb41 (by simp)
      refine ⟨w69, hr69, y.d, by rw [cell_blk hb69]; rfl, x.d, cx hbx69 (j := 1) rfl, (make_spec y.d x.d (by omega) (by omega) w69).mono ?_⟩
      rintro e w73 ⟨d, is, rfl, hD, hds, f73⟩
      have hbx73 := f73.keep hbx69 (by simp)
      have f41_73 := f41_69.trans' f73
      refine ⟨d, rfl, fun hb => absurd (of_decide_eq_true hb) (by omega), fun _ => ⟨_, cx hbx73 (j := 4) rfl, fun hnm => ?_, fun hnm w100 d100 => ?_⟩⟩
      · refine ⟨_, _, boxO_load (f73.keep hb69 (by simp)), (oid_spec y.k y.d (by omega) (ht.keep (f39_41.trans' f41_73))).mono ?_⟩
        rintro e w79 ⟨⟨_, rfl⟩ | ⟨hno, rfl⟩, f79⟩
        rotate_left
        · exact absurd hky hno
        have hidy : isId (idS y.k y.d).data.toList = true := by
          unfold idS
          rw [bs_mk]
          unfold isId
          rw [unhex_hex, hexL_length, dig1_len]; rfl
        have hid40 : (idS y.k y.d).size = 40 := by
          unfold idS
          rw [bs_mksize, hexL_length, dig1_len]
        refine ⟨_, _, rfl, (unhex_spec _ (by omega) w79).mono ?_⟩
        rintro e w83 ⟨rfl, f83⟩
        refine ⟨_, _, rfl, fun w86 d86 => ?_⟩
        have f86 : Fr (fun _ => False) w83 w86 := .drew _ d86
        have h20 := unhexS_len hidy
        refine ⟨fun w' => Fr (fun _ => False) w86 w', .refl _ _, (headOf_spec 7 d.size (by decide) (by omega) w86).mono ?_⟩
        rintro e w89 ⟨l90, rfl, o89, f89⟩
        have hh := headL_len 7 d.size
        have q1 := bs_mksize (headL 7 d.size)
        have q2 := bs_mksize (frameS (deflT d) d.data.toList)
        refine ⟨l90, rfl, fun w' => Fr (fun _ => False) w89 w', fun w92 h => f89.trans' h, .refl _ _, _, fun w94 h => conv (o89.keep h (by simp)), by omega, (zwrite_spec d (by omega) w89).mono ?_⟩
        rintro e w96 ⟨rfl, hst, hstl, f96⟩
        have hfl := frame_len (deflT d) d.data.toList
        refine ⟨_, rfl, fun w' => Fr (fun _ => False) w96 w', fun w99 h => f96.trans' h, .refl _ _, by rw [ByteArray.size_append]; omega, by rw [ByteArray.size_append, ByteArray.size_append]; omega, ?_⟩
        have hby : bytesP ⟨7, (unhexS (idS y.k y.d)).data.toList, deflT d, d⟩ = headL 7 d.size ++ ((unhexS (idS y.k y.d)).data.toList ++ frameS (deflT d) d.data.toList) := by
          unfold bytesP entL
          rw [bs_len]
        refine fin ⟨7, (unhexS (idS y.k y.d)).data.toList, deflT d, d⟩ _ w96 (by rw [bs_app, bs_app, bs_mk, bs_mk, hby, List.append_assoc]) ⟨.inr (.inr ⟨rfl, by rw [bs_len]; exact h20⟩), (show d.size < 2048 by omega), hst, ?_⟩ (((((f41_73.trans' f79).trans' f83).trans' f86).trans' f89).trans' f96)
        rw [hby, List.length_append, List.length_append, bs_len]; omega
      · have f100 : Fr (fun _ => False) w73 w100 := .drew _ d100
        have f41_100 := f41_73.trans' f100
        have hbx100 := f100.keep hbx73 (by simp)
        have o100 := o41.keep f41_100 (by simp)
        have hl42 := o41.len
        rw [List.length_append, List.length_cons, List.length_nil] at hl42
        have hil2 : (atsV (posL 12 es)).length = i := by unfold atsV; rw [List.length_map, hpl, hel]
        have hjp : j < (posL 12 es).length := by omega
        have hpm := posL_lt 12 es hok _ (List.getElem_mem hjp)
        have hpx : (posL 12 es)[j]? = some (posL 12 es)[j] := List.getElem?_eq_getElem hjp
        generalize (posL 12 es)[j] = p at hpm hpx
        have hgp : (atsV (posL 12 es) ++ [Value.int .i64 (s9.size : Int)])[j]? = some (.int .i64 (p : Int)) := by
          rw [List.getElem?_append_left (by omega)]
          unfold atsV
          rw [List.getElem?_map, hpx]; rfl
        obtain ⟨ad3, had3, hc3⟩ := o100.reads j _ hgp
        have eo : IntKind.i64.wrap ((s9.size : Int) - (p : Int)) = ((s9.size - p : Nat) : Int) := by rw [wrap_i64 (by omega) (by omega)]; omega
        refine ⟨fun w' => Fr (fun _ => False) w100 w', .refl _ _, _, fun w103 h => cx (h.keep hbx100 (by simp)) (j := 3) rfl, ⟨by omega, by omega⟩, ad3, had3, (p : Int), fun w106 h => ?_, (headOf_spec 6 d.size (by decide) (by omega) w100).mono ?_⟩
        · rw [hj, Int.toNat_natCast, Nat.mul_one]
          exact h.cell hc3 (by simp)
        rintro e w108 ⟨l109, rfl, o108, f108⟩
        have hh := headL_len 6 d.size
        have q1 := bs_mksize (headL 6 d.size)
        have q2 := bs_mksize (frameS (deflT d) d.data.toList)
        have q3 := bs_mksize (backL (s9.size - p))
        refine ⟨l109, rfl, fun w' => Fr (fun _ => False) w108 w', fun w111 h => f108.trans' h, .refl _ _, _, fun w113 h => conv (o108.keep h (by simp)), ?_⟩
        rw [eo]
        refine (backOf_spec (s9.size - p) (by omega) w108).mono ?_
        rintro e w115 ⟨l116, rfl, o115, f115⟩
        have hbl := backL_len (s9.size - p) (by omega)
        refine ⟨l116, rfl, fun w' => Fr (fun _ => False) w115 w', fun w118 h => f115.trans' h, .refl _ _, _, fun w120 h => conv (o115.keep h (by simp)), by omega, (zwrite_spec d (by omega) w115).mono ?_⟩
        rintro e w122 ⟨rfl, hst, hstl, f122⟩
        have hfl := frame_len (deflT d) d.data.toList
        refine ⟨_, rfl, fun w' => Fr (fun _ => False) w122 w', fun w125 h => f122.trans' h, .refl _ _, by rw [ByteArray.size_append]; omega, by rw [ByteArray.size_append, ByteArray.size_append]; omega, ?_⟩
        have hby : bytesP ⟨6, backL (s9.size - p), deflT d, d⟩ = headL 6 d.size ++ (backL (s9.size - p) ++ frameS (deflT d) d.data.toList) := by
          unfold bytesP entL
          rw [bs_len]
        refine fin ⟨6, backL (s9.size - p), deflT d, d⟩ _ w122 (by rw [bs_app, bs_app, bs_mk, bs_mk, bs_mk, hby, List.append_assoc]) ⟨.inr (.inl ⟨rfl, s9.size - p, rfl, by omega, by omega⟩), (show d.size < 2048 by omega), hst, ?_⟩ (((f41_100.trans' f108).trans' f115).trans' f122)
        rw [hby, List.length_append, List.length_append]; omega
  · have hge := of_decide_eq_false hge
    have hin : i = n := by omega
    refine (sum1_spec s9 (by omega) w12).mono ?_
    rintro e w113 ⟨rfl, f113⟩
    have hshl : (⟨(digest block1 start1 s9.data.toList).toArray⟩ : ByteArray).size = 20 := by rw [bs_mksize]; exact dig1_len _
    refine ⟨_, rfl, by rw [hshl]; omega, f12.trans' f113, .inr ⟨es, by omega, hok, ?_, ?_⟩⟩
    · rw [hin, List.take_of_length_le (by omega)] at hkds
      exact hkds
    · congr 3
      refine congrArg Value.string (bs_ext ?_)
      rw [bs_app, bs_mk, bs_mk, hs9]; rfl
end Go.Proofs.YtaaimcbicpgjoaaGreatDoor

/- Formulas of 1 Go functions of this seat (written by a program of the author's, vcgen.py), and that each is enough for the call. No condition. -/
set_option linter.unusedVariables false
namespace Go.Proofs.YtaaimcbicpgjoaaGreatDoor
open Go Vc Go.Proofs
set_option maxRecDepth 100000
/-- pack.All -/
def vc_pack_All (x0 : ByteArray) (w : World) (R : Value → World → Prop) : Prop :=
 Calls Tryz.prog (26 : Nat) (Array.mk [Value.string x0]) (w) (fun e1 w2 =>
 ∃ n3 : Int, ∃ n4 : Int, (e1 = Ending.returned (Value.tuple (Array.mk [Value.int IntKind.i64 n3, Value.int IntKind.i64 n4])) ∧
 ((((n4 != 0) = true →
 R (Value.tuple (Array.mk [Value.slice none 0 0, Value.int IntKind.i64 n4])) w2)) ∧
 ((n4 != 0) = false →
 ∃ I5 : Int → Sl → Int → World → Prop, ∃ I6 : Int → Sl → Int → World → Nat, (I5 12 (Sl.mk none 0 0) 0 w2 ∧
 ∀ n7 : Int,
 ∀ l8 : Sl,
 ∀ n9 : Int,
 ∀ w10 : World,
 (I5 n7 l8 n9 w10 →
 (((decide (n9 < n3) = true →
 Calls Tryz.prog (14 : Nat) (Array.mk [Value.string x0, Value.int IntKind.i64 n7]) (w10) (fun e11 w12 =>
 ∃ n13 : Int, ∃ n14 : Int, ∃ n15 : Int, ∃ s16 : ByteArray, ∃ n17 : Int, ∃ s18 : ByteArray, ∃ n19 : Int, ∃ n20 : Int, (e11 = Ending.returned (Value.tuple (Array.mk [Value.agg (Array.mk [Value.int IntKind.i64 n13, Value.int IntKind.i64 n14, Value.int IntKind.i64 n15, Value.string s16, Value.int IntKind.i64 n17, Value.string s18, Value.int IntKind.u32 n19]), Value.int IntKind.i64 n20])) ∧
 ∀ w21 : World,
 (w21 = World.alloc w12 (Obj.cells (Array.mk [Value.int IntKind.i64 0, Value.int IntKind.i64 0, Value.int IntKind.i64 0, Value.string (ByteArray.mk (Array.mk [])), Value.int IntKind.i64 0, Value.string (ByteArray.mk (Array.mk [])), Value.int IntKind.u32 0]) 33) →
 ∃ w22 : World, (Sem.run Tryz.prog (storeVar 33 (Addr.mk (Array.size (World.heap w12)) 0 none) (Value.agg (Array.mk [Value.int IntKind.i64 n13, Value.int IntKind.i64 n14, Value.int IntKind.i64 n15, Value.string s16, Value.int IntKind.i64 n17, Value.string s18, Value.int IntKind.u32 n19]))) w21 = Result.ok PUnit.unit w22 ∧
 ((((n20 != 0) = true →
 R (Value.tuple (Array.mk [Value.slice none 0 0, Value.int IntKind.i64 n20])) w22)) ∧
 ((n20 != 0) = false →
 ∃ n23 : Int, ∃ n24 : Int, ∃ n25 : Int, ∃ s26 : ByteArray, ∃ n27 : Int, ∃ s28 : ByteArray, ∃ n29 : Int, (Sem.run Tryz.prog (loadVar 33 (Addr.mk (Array.size (World.heap w12)) 0 none)) w22 = Result.ok (Value.agg (Array.mk [Value.int IntKind.i64 n23, Value.int IntKind.i64 n24, Value.int IntKind.i64 n25, Value.string s26, Value.int IntKind.i64 n27, Value.string s28, Value.int IntKind.u32 n29])) w22 ∧
 ∀ w30 : World,
 (w30 = World.alloc w22 (Obj.cells (Array.mk [Value.int IntKind.i64 n23, Value.int IntKind.i64 n24, Value.int IntKind.i64 n25, Value.string s26, Value.int IntKind.i64 n27, Value.string s28, Value.int IntKind.u32 n29]) 33) →
 ∃ w31 : World, ∃ l32 : Sl, (Sem.run Tryz.prog (Builtin.append_ (Array.mk [27, 27]) 27 (Array.mk [Value.slice l8.1 l8.2 l8.3, Value.slice (some (Addr.mk (Array.size (World.heap w22)) 0 none)) 1 1])) w30 = Result.ok (Value.slice l32.1 l32.2 l32.3) w31 ∧
 ∃ n33 : Int, (World.cell? w31 (Addr.mk (Array.size (World.heap w12)) 1 none) = some (Value.int IntKind.i64 n33) ∧
 (I5 n33 (Sl.mk l32.1 l32.2 l32.3) (IntKind.wrap IntKind.i64 (n9 + 1)) w31 ∧
 I6 n33 (Sl.mk l32.1 l32.2 l32.3) (IntKind.wrap IntKind.i64 (n9 + 1)) w31 < I6 n7 l8 n9 w10))))))))))))) ∧
 (decide (n9 < n3) = false →
 ((((n7 != IntKind.wrap IntKind.i64 ((↑(ByteArray.size x0) : Int) - 20)) = true →
 R (Value.tuple (Array.mk [Value.slice none 0 0, Value.int IntKind.i64 3])) w10)) ∧
 ((n7 != IntKind.wrap IntKind.i64 ((↑(ByteArray.size x0) : Int) - 20)) = false →
 R (Value.tuple (Array.mk [Value.slice l8.1 l8.2 l8.3, Value.int IntKind.i64 0])) w10))))))))))
theorem vc_pack_All_ok {x0 : ByteArray} {w : World} {R : Value → World → Prop} {R' : Ending → World → Prop} (h : vc_pack_All x0 w R) (hR : ∀ v w', R v w' → R' (.returned v) w') :
    Calls Tryz.prog 6 #[.string x0] w R' :=
  calls_of_body (vs := [(.string x0, false)]) (ty := ty) (ann := ⟨[], [(7, [(6, .int .i64), (7, .slice), (19, .int .i64)])], [], []⟩) (c := Tryz.f6.body.getD .skip) (by kernel_rfl) Tryz.func6 (by kernel_rfl) (by kernel_rfl) (Eq.mp (by kernel_rfl) h) hR
end Go.Proofs.YtaaimcbicpgjoaaGreatDoor

/- pack.Count and pack.All of a pack that was built. Conditions: at most twelve entries. -/
set_option linter.unusedVariables false
namespace Go.Proofs.YtaaimcbicpgjoaaGreatDoor
open Go Vc HexM SumM ShaM Go.Proofs

theorem pcount_spec {s : ByteArray} {n : Nat} {rest : List UInt8} (hs : s.data.toList = (hdrP n ++ rest) ++ shaL (hdrP n ++ rest)) (hn : n ≤ 1000) (hss : s.size ≤ 1000000) (w : World) :
    Calls Tryz.prog F_pack_Count #[.string s] w fun e w' => e = .returned (.tuple #[.int .i64 (n : Int), .int .i64 0]) ∧ Fr (fun _ => False) w w' := by
  refine vc_pack_Count_ok (R := fun v w' => v = .tuple #[.int .i64 (n : Int), .int .i64 0] ∧ Fr (fun _ => False) w w') ?_ (fun v w' h => ⟨by rw [h.1], h.2⟩)
  have hsz : s.size = 12 + rest.length + 20 := by
    rw [← bs_len, hs, List.length_append, List.length_append, hdrP_len, shaL_len]
  obtain ⟨Y, hY⟩ : ∃ Y, rest ++ shaL (hdrP n ++ rest) = Y := ⟨_, rfl⟩
  have hs2 : s.data.toList = [80, 65, 67, 75] ++ (bigB 4 2 ++ (bigB 4 n ++ Y)) := by
    rw [hs, ← hY]
    conv => lhs; lhs; unfold hdrP
    simp only [List.append_assoc]
  have b4 : ∀ x, (bigB 4 x).length = 4 := fun x => bigB_length _ _
  have x0 : s.extract 0 4 = ⟨#[80, 65, 67, 75]⟩ := bs_ext (by rw [bs_head, hs2]; rfl)
  have x1 : (s.extract 4 8).data.toList = bigB 4 2 := by
    rw [bs_extract, hs2]
    show (bigB 4 2 ++ (bigB 4 n ++ Y)).take 4 = bigB 4 2
    rw [List.take_append_of_le_length (by rw [b4]; exact Nat.le_refl _), List.take_of_length_le (by rw [b4]; exact Nat.le_refl _)]
  have x2 : (s.extract 8 12).data.toList = bigB 4 n := by
    rw [bs_extract, hs2]
    show ((bigB 4 2 ++ (bigB 4 n ++ Y)).drop 4).take 4 = bigB 4 n
    rw [show (bigB 4 2 ++ (bigB 4 n ++ Y)).drop 4 = bigB 4 n ++ Y from List.drop_left' (b4 2), List.take_append_of_le_length (by rw [b4]; exact Nat.le_refl _), List.take_of_length_le (by rw [b4]; exact Nat.le_refl _)]
  refine ⟨fun h => absurd (of_decide_eq_true h) (by omega), fun _ => ⟨⟨by decide, by omega⟩, fun hne => ?_, fun _ => ⟨⟨by decide, by decide, by omega⟩, (frombig_spec _ (by rw [ByteArray.size_extract]; simp; omega) w).mono ?_⟩⟩⟩
  · rw [show Int.toNat 4 = 4 from rfl, x0] at hne
    simp at hne
  rintro e w2 ⟨rfl, hw⟩
  replace hw := hw.symm
  subst hw
  rw [show Int.toNat 4 = 4 from rfl, show Int.toNat 8 = 8 from rfl, x1, num8_bigB 4 2 (by decide)]
  refine ⟨_, rfl, fun h => (by cases h), fun _ => ⟨⟨by decide, by decide, by omega⟩, (frombig_spec _ (by rw [ByteArray.size_extract]; simp; omega) w).mono ?_⟩⟩
  rintro e w5 ⟨rfl, hw⟩
  replace hw := hw.symm
  subst hw
  rw [show Int.toNat 12 = 12 from rfl, x2, num8_bigB 4 n (by omega)]
  have e20 : IntKind.i64.wrap ((s.size : Int) - 20) = ((s.size - 20 : Nat) : Int) := by rw [wrap_i64 (by omega) (by omega)]; omega
  refine ⟨_, rfl, fun h => absurd (of_decide_eq_true h) (by omega), fun _ w7 d7 => ⟨fun _ => True, trivial, ?_⟩⟩
  rw [e20, Int.toNat_natCast]
  refine ⟨⟨by omega, by omega⟩, ⟨by omega, by omega⟩, (sum1_spec _ (by rw [ByteArray.size_extract]; omega) w7).mono ?_⟩
  rintro e w10 ⟨rfl, f10⟩
  have hl20 : (hdrP n ++ rest).length = s.size - 20 := by rw [List.length_append, hdrP_len]; omega
  have y1 : (s.extract 0 (s.size - 20)).data.toList = hdrP n ++ rest := by rw [bs_head, hs, ← hl20, List.take_left]
  have y2 : (⟨(digest block1 start1 (s.extract 0 (s.size - 20)).data.toList).toArray⟩ : ByteArray) = s.extract (s.size - 20) s.size := bs_ext (by rw [bs_mk, y1, bs_tail, hs, ← hl20, List.drop_left]; rfl)
  refine ⟨_, rfl, trivial, fun hne => ?_, fun _ => ⟨?_, (Fr.drew _ d7).trans' f10⟩⟩
  · rw [y2] at hne
    simp at hne
  · rw [wrap_i64 (by omega) (by omega)]
/-- An entry that was read. -/
structure EnV where
  at_ : Int
  next : Int
  kd : Int
  d : ByteArray
  base : Int
  id : ByteArray
  crc : Int
def encV (v : EnV) : List Value := [.int .i64 v.at_, .int .i64 v.next, .int .i64 v.kd, .string v.d, .int .i64 v.base, .string v.id, .int .u32 v.crc]
theorem elV : ElK encV 7 Tryz.prog T_S_pack_Entry T_pack_Entry (.agg #[.int .i64 0, .int .i64 0, .int .i64 0, .string ⟨#[]⟩, .int .i64 0, .string ⟨#[]⟩, .int .u32 0]) 72 :=
  ⟨by kernel_rfl, by kernel_rfl, rfl, by decide, by kernel_rfl, fun _ => rfl, fun x u hu => by
    simp only [encV, List.mem_cons, List.mem_nil_iff, or_false] at hu
    rcases hu with rfl | rfl | rfl | rfl | rfl | rfl | rfl <;> rfl⟩
def crcP (e : EnP) : Nat := (crcW (bytesP e)).toNat
def posAt (es : List EnP) (i : Nat) : Nat := 12 + ((es.take i).flatMap bytesP).length
theorem okEs_get : ∀ (F : Nat) (es : List EnP) (i : Nat) (e : EnP), OkEs F es → es[i]? = some e → OkE (F + ((es.take i).flatMap bytesP).length) e
  | F, x :: r, 0, e, h, he => by
    simp only [List.getElem?_cons_zero, Option.some.injEq] at he
    subst he
    simpa using h.1
  | F, x :: r, i + 1, e, h, he => by
    simp only [List.getElem?_cons_succ] at he
    have := okEs_get _ r i e h.2 he
    rw [List.take_succ_cons, List.flatMap_cons, List.length_append, ← Nat.add_assoc]
    exact this
  | F, [], i, e, h, he => by simp at he
/-- What was read is what was written. -/
def VsOk (es : List EnP) (vs : List EnV) : Prop := ∀ j v, vs[j]? = some v → ∃ e, es[j]? = some e ∧ v.at_ = ((posAt es j : Nat) : Int) ∧ v.next = ((posAt es j + (bytesP e).length : Nat) : Int) ∧ v.crc = ((crcP e : Nat) : Int)
theorem pread_at {n : Nat} {es : List EnP} {s : ByteArray} (hs : s.data.toList = packL n es ++ shaL (packL n es)) (hok : OkEs 12 es) (hss : s.size ≤ 1000000) {i : Nat} {e : EnP} (he : es[i]? = some e) (w : World) :
    Calls Tryz.prog F_pack_Read #[.string s, .int .i64 ((posAt es i : Nat) : Int)] w fun en w' => (∃ (base : Int) (id : ByteArray), en = .returned (.tuple #[.agg #[.int .i64 ((posAt es i : Nat) : Int), .int .i64 ((posAt es i + (bytesP e).length : Nat) : Int), .int .i64 (e.kd : Int), .string e.D, .int .i64 base, .string id,
      .int .u32 ((crcP e : Nat) : Int)], .int .i64 0])) ∧ Fr (fun _ => False) w w' := by
  have hoke := okEs_get 12 es i e hok he
  have hF : (hdrP n ++ (es.take i).flatMap bytesP).length = posAt es i := by rw [List.length_append, hdrP_len]; rfl
  have hsp : es = es.take i ++ (e :: es.drop (i + 1)) := by
    have hi := (List.getElem?_eq_some_iff.1 he).1
    have := List.drop_eq_getElem_cons hi
    rw [(List.getElem?_eq_some_iff.1 he).2] at this
    rw [← this, List.take_append_drop]
  have hs2 : s.data.toList = (hdrP n ++ (es.take i).flatMap bytesP) ++ (entL e.kd e.ex e.st e.D.data.toList ++ ((es.drop (i + 1)).flatMap bytesP ++ shaL (packL n es))) := by
    rw [hs]
    have : es.flatMap bytesP = (es.take i).flatMap bytesP ++ (bytesP e ++ (es.drop (i + 1)).flatMap bytesP) := by
      conv => lhs; rw [hsp]
      rw [List.flatMap_append, List.flatMap_cons]
    conv => lhs; lhs; unfold packL
    rw [this]
    simp only [List.append_assoc]
    rfl
  have := pread_spec hs2 (by rw [hF]; unfold posAt; omega) (by rw [List.length_append, shaL_len]; omega) hoke.D hoke.st hss (by rw [hF]; exact hoke.ex) w
  rw [hF] at this
  exact this
theorem posAt_succ {es : List EnP} {i : Nat} {e : EnP} (he : es[i]? = some e) : posAt es (i + 1) = posAt es i + (bytesP e).length := by
  unfold posAt
  rw [List.take_add_one, he, List.flatMap_append, List.length_append, ← Nat.add_assoc]
  simp
theorem boxV_store {w : World} {g : Nat} {cs : Array Value} (h : w.heap[g]? = some (.cells cs T_pack_Entry (0, 0))) (hc : cs.size = 7) (x : EnV) :
    ∃ w', (storeVar T_pack_Entry ⟨g, 0, none⟩ (.agg #[.int .i64 x.at_, .int .i64 x.next, .int .i64 x.kd, .string x.d, .int .i64 x.base, .string x.id, .int .u32 x.crc])).run Tryz.prog w = .ok () w' ∧ w'.heap[g]? = some (.cells (encV x).toArray T_pack_Entry (0, 0)) ∧ Fr (· = g) w w' := by
  obtain ⟨w', h1, h2, h3⟩ := EntP.store h hc x.at_ x.next x.kd x.base x.crc x.d x.id
  exact ⟨w', h1, h2, h3⟩
theorem boxV_load {w : World} {g : Nat} {x : EnV} (h : w.heap[g]? = some (.cells (encV x).toArray T_pack_Entry (0, 0))) : (loadVar T_pack_Entry ⟨g, 0, none⟩).run Tryz.prog w = .ok (.agg #[.int .i64 x.at_, .int .i64 x.next, .int .i64 x.kd, .string x.d, .int .i64 x.base, .string x.id, .int .u32 x.crc]) w :=
  EntP.load h
theorem pall_spec {n : Nat} {es : List EnP} {s : ByteArray} (hs : s.data.toList = packL n es ++ shaL (packL n es)) (hok : OkEs 12 es) (hen : es.length = n) (hn : n ≤ 12) (w : World) :
    Calls Tryz.prog F_pack_All #[.string s] w fun e w' => ∃ (l : Sl) (vs : List EnV), e = .returned (.tuple #[.slice l.a l.len l.cap, .int .i64 0]) ∧ OwnK encV 7 w' w.heap.size T_pack_Entry l vs ∧ vs.length = n ∧ VsOk es vs ∧ Fr (fun _ => False) w w' := by
  refine vc_pack_All_ok (R := fun v w' => ∃ (l : Sl) (vs : List EnV), v = .tuple #[.slice l.a l.len l.cap, .int .i64 0] ∧ OwnK encV 7 w' w.heap.size T_pack_Entry l vs ∧ vs.length = n ∧ VsOk es vs ∧ Fr (fun _ => False) w w') ?_ (fun v w' ⟨l, vs, h1, h2⟩ => ⟨l, vs, by rw [h1], h2⟩)
  have htot := okEs_len 12 es hok
  have hsz : s.size = 12 + (es.flatMap bytesP).length + 20 := by
    rw [← bs_len, hs, List.length_append, shaL_len]
    unfold packL
    rw [List.length_append, hdrP_len]
  refine (pcount_spec (rest := es.flatMap bytesP) hs (by omega) (by omega) w).mono ?_
  rintro e w2 ⟨rfl, f2⟩
  refine ⟨_, _, rfl, fun h => (by cases h), fun _ => ⟨fun at_ l m w' => ∃ (i : Nat) (vs : List EnV), m = i ∧ i ≤ n ∧ at_ = ((posAt es i : Nat) : Int) ∧ OwnK encV 7 w' w.heap.size T_pack_Entry l vs ∧ vs.length = i ∧ VsOk es vs ∧ Fr (fun _ => False) w w', fun _ _ m _ => n - m.toNat,
    ⟨0, [], rfl, Nat.zero_le _, by unfold posAt; simp, OwnK.nil _ _ _, rfl, fun j v h => by simp at h, f2⟩, ?_⟩⟩
  rintro at_ l m w10 ⟨i, vs, rfl, hi, rfl, o10, hvl, hvs, f10⟩
  refine ⟨fun hlt => ?_, fun hge => ?_⟩
  · have hlt := of_decide_eq_true hlt
    have hie : es[i]? = some es[i] := List.getElem?_eq_getElem (by omega)
    generalize es[i] = e at hie
    refine (pread_at hs hok (by omega) hie w10).mono ?_
    rintro en w12 ⟨⟨base, id, rfl⟩, f12⟩
    obtain ⟨v, hv⟩ : ∃ v : EnV, v = ⟨((posAt es i : Nat) : Int), ((posAt es i + (bytesP e).length : Nat) : Int), (e.kd : Int), e.D, base, id, ((crcP e : Nat) : Int)⟩ := ⟨_, rfl⟩
    refine ⟨v.at_, v.next, v.kd, v.d, v.base, v.id, v.crc, 0, by rw [hv], fun w21 h21 => ?_⟩
    have f21 : Fr (fun _ => False) w12 w21 := by rw [h21]; exact .alloc _ _ _
    have hb21 : w21.heap[w12.heap.size]? = some (.cells #[.int .i64 0, .int .i64 0, .int .i64 0, .string ⟨#[]⟩, .int .i64 0, .string ⟨#[]⟩, .int .u32 0] T_pack_Entry (0, 0)) := by rw [h21]; exact alloc_new _ _
    clear h21
    obtain ⟨w22, hr22, hb22, f22⟩ := boxV_store hb21 rfl v
    have f10_22 : Fr (fun _ => False) w10 w22 := (f12.trans' f21).trans f22 fun q hq e => by have := f12.size; omega
    have g22 := f10.trans' f10_22
    refine ⟨w22, hr22, fun h => (by cases h), fun _ => ⟨_, _, _, _, _, _, _, boxV_load hb22, fun w30 h30 => ?_⟩⟩
    obtain ⟨w31, l32, hr31, o31, f31, _⟩ := append_oneK (w2 := w30) elV (o10.keep f10_22 (by simp)) (x := v) (by unfold maxLen; omega) (by omega) g22.size h30
    have nb : ¬ At l w12.heap.size := fun ⟨y, hy, e⟩ => by have h1 := (o10.blk hy).2; have := f12.size; omega
    have e1 : IntKind.i64.wrap ((i : Int) + 1) = ((i + 1 : Nat) : Int) := by rw [wrap_i64 (by omega) (by omega)]; omega
    rw [e1]
    refine ⟨w31, l32, hr31, v.next, by rw [cell_blk (f31.keep hb22 nb)]; rfl, ⟨i + 1, vs ++ [v], rfl, by omega, by rw [hv, posAt_succ hie], o31, by rw [List.length_append, hvl]; rfl, fun j u hu => ?_, g22.trans f31 fun q hq ⟨y, hy, e⟩ => by have := (o10.blk hy).1; omega⟩, by dsimp only; omega⟩
    by_cases hj : j < vs.length
    · rw [List.getElem?_append_left hj] at hu
      exact hvs j u hu
    · have hji : j = i := by
        have := (List.getElem?_eq_some_iff.1 hu).1
        rw [List.length_append, List.length_cons, List.length_nil] at this
        omega
      rw [List.getElem?_append_right (by omega), hji, hvl, Nat.sub_self] at hu
      simp only [List.getElem?_cons_zero, Option.some.injEq] at hu
      subst hu
      rw [hji]
      exact ⟨e, hie, by rw [hv], by rw [hv], by rw [hv]⟩
  · have hge := of_decide_eq_false hge
    have hin : i = n := by omega
    have e20 : IntKind.i64.wrap ((s.size : Int) - 20) = ((s.size - 20 : Nat) : Int) := by rw [wrap_i64 (by omega) (by omega)]; omega
    have hpn : posAt es i = s.size - 20 := by
      unfold posAt
      rw [List.take_of_length_le (by omega)]
      omega
    rw [e20, hpn]
    refine ⟨fun h => ?_, fun _ => ⟨l, vs, rfl, o10, by omega, hvs, f10⟩⟩
    simp at h
end Go.Proofs.YtaaimcbicpgjoaaGreatDoor

/- Indexes of packs in plain: what bytes say, what bytes rows have, and that these say the rows again. No condition. -/
set_option linter.unusedVariables false
namespace PkM
open SumM

/-- A row: the name's bytes, the place, the sum. -/
abbrev Rw := List UInt8 × Nat × Nat
def sl (L : List UInt8) (i n : Nat) : List UInt8 := (L.drop i).take n
def magic : List UInt8 := [255, 116, 79, 99, 0, 0, 0, 2]
def hd0 (l : List UInt8) : Nat := (l.headD 0).toNat
def fan (L : List UInt8) (i : Nat) : Nat := num8 (sl L (8 + 4 * i) 4)
def fanB (L : List UInt8) (c : Nat) : Nat := if c = 0 then 0 else fan L (c - 1)
def farL (L : List UInt8) (n : Nat) : List UInt8 := sl L (1032 + 28 * n) (L.length - 40 - (1032 + 28 * n))
def placeE (far : List UInt8) (v : Nat) : Except Nat Nat := if v < 2147483648 then .ok v else if far.length / 8 ≤ v - 2147483648 then .error 3 else .ok (num8 (sl far (8 * (v - 2147483648)) 8))
def stepE (L : List UInt8) (n i : Nat) : Except Nat Rw :=
  if 0 < i ∧ ¬ sl L (1032 + 20 * i - 20) 20 < sl L (1032 + 20 * i) 20 then .error 3
  else if i < fanB L (hd0 (sl L (1032 + 20 * i) 20)) then .error 3
  else if fanB L (hd0 (sl L (1032 + 20 * i) 20) + 1) ≤ i then .error 3
  else match placeE (farL L n) (num8 (sl L (1032 + 24 * n + 4 * i) 4)) with
    | .error e => .error e
    | .ok a => if 1099511627776 < a then .error 2 else .ok (sl L (1032 + 20 * i) 20, a, num8 (sl L (1032 + 20 * n + 4 * i) 4))
def rowsE (L : List UInt8) (n : Nat) : Nat → Nat → Except Nat (List Rw)
  | _, 0 => .ok []
  | i, k + 1 => match stepE L n i with
    | .error e => .error e
    | .ok r => match rowsE L n (i + 1) k with
      | .error e => .error e
      | .ok rs => .ok (r :: rs)
def parseE (D : List UInt8 → List UInt8) (L : List UInt8) : Except Nat (List Rw × List UInt8) :=
  if L.length < 1072 then .error 6
  else if L.take 8 ≠ magic then .error 3
  else if ∃ i, i < 255 ∧ fan L (i + 1) < fan L i then .error 3
  else if 1000 < fan L 255 then .error 2
  else if L.length < 1072 + 28 * fan L 255 then .error 6
  else if (L.length - (1072 + 28 * fan L 255)) % 8 ≠ 0 then .error 3
  else match rowsE L (fan L 255) 0 (fan L 255) with
    | .error e => .error e
    | .ok rows => if D (L.take (L.length - 20)) ≠ L.drop (L.length - 20) then .error 5 else .ok (rows, sl L (L.length - 40) 20)
def cnt (l : List Rw) (c : Nat) : Nat := (l.filter fun r => decide (hd0 r.1 ≤ c)).length
def isFar (far : Int) (r : Rw) : Bool := decide (far ≤ (r.2.1 : Int)) || decide (2147483648 ≤ r.2.1)
def nearV (far : Int) : Nat → List Rw → List Nat
  | _, [] => []
  | k, r :: rs => if isFar far r = true then (2147483648 + k) :: nearV far (k + 1) rs else r.2.1 :: nearV far k rs
def bodyT (far : Int) (l : List Rw) (sum : List UInt8) : List UInt8 :=
  magic ++ ((List.range 256).flatMap (fun c => bigB 4 (cnt l c)) ++ (l.flatMap (·.1) ++ (l.flatMap (fun r => bigB 4 r.2.2) ++ ((nearV far 0 l).flatMap (bigB 4) ++ ((l.filter (isFar far)).flatMap (fun r => bigB 8 r.2.1) ++ sum)))))
def textT (D : List UInt8 → List UInt8) (far : Int) (l : List Rw) (sum : List UInt8) : List UInt8 := bodyT far l sum ++ D (bodyT far l sum)
/-- Rows that an index holds. -/
structure Good (l : List Rw) : Prop where
  raw : ∀ r ∈ l, r.1.length = 20
  place : ∀ r ∈ l, r.2.1 ≤ 1099511627776
  crc : ∀ r ∈ l, r.2.2 < 4294967296
  rise : l.Pairwise fun x y => x.1 < y.1
  few : l.length ≤ 1000
theorem sl_len {L : List UInt8} {i n : Nat} (h : i + n ≤ L.length) : (sl L i n).length = n := by
  unfold sl; rw [List.length_take, List.length_drop]; omega
theorem sl_mid (P Q R : List UInt8) {j m : Nat} (h : j + m ≤ Q.length) : sl (P ++ (Q ++ R)) (P.length + j) m = sl Q j m := by
  unfold sl
  rw [← List.drop_drop, List.drop_left, List.drop_append_of_le_length (by omega), List.take_append_of_le_length (by rw [List.length_drop]; omega)]
theorem flat_size {α : Type} {f : α → List UInt8} {k : Nat} : ∀ (l : List α), (∀ x ∈ l, (f x).length = k) → (l.flatMap f).length = k * l.length
  | [], _ => by simp
  | x :: r, h => by
    rw [List.flatMap_cons, List.length_append, h x (.head _), flat_size r fun y hy => h y (.tail _ hy), List.length_cons, Nat.mul_succ]; omega
theorem sl_flat {α : Type} {f : α → List UInt8} {k : Nat} : ∀ (l : List α) (i : Nat) (x : α), (∀ x ∈ l, (f x).length = k) → l[i]? = some x → sl (l.flatMap f) (k * i) k = f x
  | y :: r, 0, x, h, hx => by
    simp only [List.getElem?_cons_zero, Option.some.injEq] at hx
    subst hx
    unfold sl
    rw [Nat.mul_zero, List.drop_zero, List.flatMap_cons, List.take_left' (h y (.head _))]
  | y :: r, i + 1, x, h, hx => by
    have := sl_flat r i x (fun z hz => h z (.tail _ hz)) (by simpa using hx)
    unfold sl at this ⊢
    rw [List.flatMap_cons, Nat.mul_succ, Nat.add_comm, ← List.drop_drop, List.drop_left' (h y (.head _))]
    exact this
  | [], i, x, _, hx => by simp at hx
theorem nearV_len (far : Int) : ∀ (k : Nat) (l : List Rw), (nearV far k l).length = l.length
  | _, [] => rfl
  | k, r :: rs => by
    rw [nearV]
    split
    · rw [List.length_cons, nearV_len far (k + 1) rs, List.length_cons]
    · rw [List.length_cons, nearV_len far k rs, List.length_cons]
theorem nearV_at (far : Int) : ∀ (k : Nat) (l : List Rw) (i : Nat) (r : Rw), l[i]? = some r →
    (isFar far r = true → (nearV far k l)[i]? = some (2147483648 + k + ((l.take i).filter (isFar far)).length) ∧ (l.filter (isFar far))[((l.take i).filter (isFar far)).length]? = some r) ∧
    (isFar far r = false → (nearV far k l)[i]? = some r.2.1)
  | k, x :: rs, 0, r, h => by
    simp only [List.getElem?_cons_zero, Option.some.injEq] at h
    subst h
    rw [nearV]
    refine ⟨fun hf => ?_, fun hf => ?_⟩
    · rw [if_pos hf, List.filter_cons_of_pos hf]; simp
    · rw [if_neg (by rw [hf]; decide)]; rfl
  | k, x :: rs, i + 1, r, h => by
    rw [nearV]
    by_cases hx : isFar far x = true
    · obtain ⟨h1, h2⟩ := nearV_at far (k + 1) rs i r (by simpa using h)
      rw [if_pos hx, List.take_succ_cons, List.filter_cons_of_pos hx, List.filter_cons_of_pos hx]
      refine ⟨fun hf => ?_, fun hf => by rw [List.getElem?_cons_succ]; exact h2 hf⟩
      obtain ⟨h3, h4⟩ := h1 hf
      rw [List.getElem?_cons_succ, h3, List.length_cons, List.getElem?_cons_succ]
      exact ⟨by congr 1; omega, h4⟩
    · obtain ⟨h1, h2⟩ := nearV_at far k rs i r (by simpa using h)
      rw [if_neg hx, List.take_succ_cons, List.filter_cons_of_neg hx, List.filter_cons_of_neg hx]
      refine ⟨fun hf => ?_, fun hf => by rw [List.getElem?_cons_succ]; exact h2 hf⟩
      rw [List.getElem?_cons_succ]
      exact h1 hf
  | k, [], i, r, h => by simp at h
theorem nearV_lt (far : Int) : ∀ (k : Nat) (l : List Rw), k + l.length ≤ 1000000 → (∀ r ∈ l, r.2.1 < 2147483648 ∨ isFar far r = true) → ∀ v ∈ nearV far k l, v < 4294967296
  | k, [], _, _, v, hv => by simp [nearV] at hv
  | k, r :: rs, hk, h, v, hv => by
    rw [List.length_cons] at hk
    rw [nearV] at hv
    split at hv
    · rcases List.mem_cons.1 hv with rfl | hv
      · omega
      · exact nearV_lt far (k + 1) rs (by omega) (fun x hx => h x (.tail _ hx)) v hv
    · rename_i hf
      rcases List.mem_cons.1 hv with rfl | hv
      · rcases h r (.head _) with h | h
        · omega
        · exact absurd h hf
      · exact nearV_lt far k rs (by omega) (fun x hx => h x (.tail _ hx)) v hv
theorem near_far {far : Int} {r : Rw} (h : isFar far r = false) : r.2.1 < 2147483648 := by
  unfold isFar at h
  rw [Bool.or_eq_false_iff] at h
  have := of_decide_eq_false h.2
  omega
theorem cnt_le (l : List Rw) (c : Nat) : cnt l c ≤ l.length := List.length_filter_le _ _
theorem cnt_mono (l : List Rw) (c : Nat) : cnt l c ≤ cnt l (c + 1) := by
  unfold cnt
  rw [← List.countP_eq_length_filter, ← List.countP_eq_length_filter]
  refine List.countP_mono_left fun x _ h => ?_
  have := of_decide_eq_true h
  exact decide_eq_true (by omega)
theorem cnt_all (l : List Rw) : cnt l 255 = l.length := by
  unfold cnt
  rw [List.filter_eq_self.2]
  intro r _
  have := (r.1.headD 0).toNat_lt
  exact decide_eq_true (by unfold hd0; omega)
theorem head_le {a b : List UInt8} (ha : a.length = 20) (hb : b.length = 20) (h : a < b) : hd0 a ≤ hd0 b := by
  match a, b, ha, hb with
  | x :: a, y :: b, _, _ =>
    rw [List.cons_lt_cons_iff] at h
    show x.toNat ≤ y.toNat
    rcases h with h | ⟨h, _⟩
    · rw [UInt8.lt_iff_toNat_lt] at h; omega
    · rw [h]; exact Nat.le_refl _
theorem head_rise {l : List Rw} (h : Good l) {i j : Nat} {x y : Rw} (hx : l[i]? = some x) (hy : l[j]? = some y) (hij : i ≤ j) : hd0 x.1 ≤ hd0 y.1 := by
  rcases Nat.lt_or_ge i j with hlt | hge
  · obtain ⟨hi, rfl⟩ := List.getElem?_eq_some_iff.1 hx
    obtain ⟨hj, rfl⟩ := List.getElem?_eq_some_iff.1 hy
    exact head_le (h.raw _ (List.getElem_mem hi)) (h.raw _ (List.getElem_mem hj)) ((List.pairwise_iff_getElem.1 h.rise) i j hi hj hlt)
  · rw [show i = j by omega, hy] at hx
    cases hx; exact Nat.le_refl _
theorem cnt_hi {l : List Rw} (h : Good l) {i : Nat} {x : Rw} (hx : l[i]? = some x) : i < cnt l (hd0 x.1) := by
  have hi := (List.getElem?_eq_some_iff.1 hx).1
  have h1 : l.take (i + 1) = (l.take (i + 1)).filter fun r => decide (hd0 r.1 ≤ hd0 x.1) := by
    refine (List.filter_eq_self.2 fun r hr => ?_).symm
    obtain ⟨j, hj⟩ := List.mem_iff_getElem?.1 hr
    rw [List.getElem?_take] at hj
    split at hj
    · exact decide_eq_true (head_rise h hj hx (by omega))
    · cases hj
  have h2 := congrArg List.length h1
  rw [List.length_take] at h2
  unfold cnt
  have h4 : l.filter (fun r => decide (hd0 r.1 ≤ hd0 x.1)) = (l.take (i + 1)).filter (fun r => decide (hd0 r.1 ≤ hd0 x.1)) ++ (l.drop (i + 1)).filter (fun r => decide (hd0 r.1 ≤ hd0 x.1)) := by rw [← List.filter_append, List.take_append_drop]
  rw [h4, List.length_append, ← h2]; omega
theorem cnt_lo {l : List Rw} (h : Good l) {i c : Nat} {x : Rw} (hx : l[i]? = some x) (hc : c < hd0 x.1) : cnt l c ≤ i := by
  have hi := (List.getElem?_eq_some_iff.1 hx).1
  have h1 : (l.drop i).filter (fun r => decide (hd0 r.1 ≤ c)) = [] := by
    refine List.filter_eq_nil_iff.2 fun r hr => ?_
    obtain ⟨j, hj⟩ := List.mem_iff_getElem?.1 hr
    rw [List.getElem?_drop] at hj
    have := head_rise h hx hj (by omega)
    simp; omega
  unfold cnt
  have h3 : l.filter (fun r => decide (hd0 r.1 ≤ c)) = (l.take i).filter (fun r => decide (hd0 r.1 ≤ c)) ++ (l.drop i).filter (fun r => decide (hd0 r.1 ≤ c)) := by rw [← List.filter_append, List.take_append_drop]
  have h4 := List.length_filter_le (fun r : Rw => decide (hd0 r.1 ≤ c)) (l.take i)
  rw [List.length_take] at h4
  rw [h3, h1, List.append_nil]; omega
section
variable {D : List UInt8 → List UInt8} {far : Int} {l : List Rw} {sum : List UInt8}
theorem body_parts (h : Good l) (hs : sum.length = 20) :
    ((List.range 256).flatMap (fun c => bigB 4 (cnt l c))).length = 1024 ∧ (l.flatMap (·.1)).length = 20 * l.length ∧ (l.flatMap (fun r => bigB 4 r.2.2)).length = 4 * l.length ∧ ((nearV far 0 l).flatMap (bigB 4)).length = 4 * l.length ∧
    ((l.filter (isFar far)).flatMap (fun r => bigB 8 r.2.1)).length = 8 * (l.filter (isFar far)).length ∧ (bodyT far l sum).length = 1052 + 28 * l.length + 8 * (l.filter (isFar far)).length := by
  have h1 := flat_size (f := fun c => bigB 4 (cnt l c)) (k := 4) (List.range 256) fun c _ => bigB_length _ _
  have h2 := flat_size (f := fun r : Rw => r.1) (k := 20) l h.raw
  have h3 := flat_size (f := fun r : Rw => bigB 4 r.2.2) (k := 4) l fun r _ => bigB_length _ _
  have h4 := flat_size (f := bigB 4) (k := 4) (nearV far 0 l) fun r _ => bigB_length _ _
  have h5 := flat_size (f := fun r : Rw => bigB 8 r.2.1) (k := 8) (l.filter (isFar far)) fun r _ => bigB_length _ _
  rw [List.length_range] at h1
  rw [nearV_len] at h4
  refine ⟨h1, h2, h3, h4, h5, ?_⟩
  unfold bodyT
  rw [List.length_append, List.length_append, List.length_append, List.length_append, List.length_append, List.length_append, h1, h2, h3, h4, h5, hs]
  show 8 + _ = _
  omega
/-- What bytes rows have says these rows. -/
theorem parse_text (h : Good l) (hs : sum.length = 20) (hD : ∀ x, (D x).length = 20) : parseE D (textT D far l sum) = .ok (l, sum) := by
  obtain ⟨h1, h2, h3, h4, h5, h6⟩ := body_parts (far := far) (sum := sum) h hs
  obtain ⟨F, hF⟩ : ∃ F, (List.range 256).flatMap (fun c => bigB 4 (cnt l c)) = F := ⟨_, rfl⟩
  obtain ⟨N, hN⟩ : ∃ N, l.flatMap (·.1) = N := ⟨_, rfl⟩
  obtain ⟨C, hC⟩ : ∃ C, l.flatMap (fun r => bigB 4 r.2.2) = C := ⟨_, rfl⟩
  obtain ⟨V, hV⟩ : ∃ V, (nearV far 0 l).flatMap (bigB 4) = V := ⟨_, rfl⟩
  obtain ⟨Q, hQ⟩ : ∃ Q, (l.filter (isFar far)).flatMap (fun r => bigB 8 r.2.1) = Q := ⟨_, rfl⟩
  rw [hF] at h1; rw [hN] at h2; rw [hC] at h3; rw [hV] at h4; rw [hQ] at h5
  obtain ⟨L, hL⟩ : ∃ L, textT D far l sum = L := ⟨_, rfl⟩
  have hbody : bodyT far l sum = magic ++ (F ++ (N ++ (C ++ (V ++ (Q ++ sum))))) := by unfold bodyT; rw [hF, hN, hC, hV, hQ]
  have hLb : L = bodyT far l sum ++ D (bodyT far l sum) := hL.symm
  have hLl : L.length = 1072 + 28 * l.length + 8 * (l.filter (isFar far)).length := by rw [hLb, List.length_append, h6, hD]; omega
  generalize hT : D (bodyT far l sum) = T at hLb
  have hTl : T.length = 20 := by rw [← hT]; exact hD _
  have hm8 : magic.length = 8 := rfl
  have eL : L = magic ++ (F ++ (N ++ (C ++ (V ++ (Q ++ (sum ++ T)))))) := by rw [hLb, hbody]; simp only [List.append_assoc]
  have sF : ∀ {j m}, j + m ≤ F.length → sl L (8 + j) m = sl F j m := fun hj => by rw [eL]; exact sl_mid magic F _ hj
  have sN : ∀ {j m}, j + m ≤ N.length → sl L (1032 + j) m = sl N j m := fun {j m} hj => by
    have := sl_mid (magic ++ F) N (C ++ (V ++ (Q ++ (sum ++ T)))) hj
    rw [List.length_append, hm8, h1, show 8 + 1024 + j = 1032 + j by omega] at this
    rw [eL, ← this, List.append_assoc]
  have sC : ∀ {j m}, j + m ≤ C.length → sl L (1032 + 20 * l.length + j) m = sl C j m := fun {j m} hj => by
    have := sl_mid (magic ++ (F ++ N)) C (V ++ (Q ++ (sum ++ T))) hj
    rw [List.length_append, List.length_append, hm8, h1, h2, show 8 + (1024 + 20 * l.length) + j = 1032 + 20 * l.length + j by omega] at this
    rw [eL, ← this, List.append_assoc, List.append_assoc]
  have sV : ∀ {j m}, j + m ≤ V.length → sl L (1032 + 24 * l.length + j) m = sl V j m := fun {j m} hj => by
    have := sl_mid (magic ++ (F ++ (N ++ C))) V (Q ++ (sum ++ T)) hj
    rw [List.length_append, List.length_append, List.length_append, hm8, h1, h2, h3, show 8 + (1024 + (20 * l.length + 4 * l.length)) + j = 1032 + 24 * l.length + j by omega] at this
    rw [eL, ← this, List.append_assoc, List.append_assoc, List.append_assoc]
  have sQ : ∀ {j m}, j + m ≤ Q.length → sl L (1032 + 28 * l.length + j) m = sl Q j m := fun {j m} hj => by
    have := sl_mid (magic ++ (F ++ (N ++ (C ++ V)))) Q (sum ++ T) hj
    rw [List.length_append, List.length_append, List.length_append, List.length_append, hm8, h1, h2, h3, h4, show 8 + (1024 + (20 * l.length + (4 * l.length + 4 * l.length))) + j = 1032 + 28 * l.length + j by omega] at this
    rw [eL, ← this, List.append_assoc, List.append_assoc, List.append_assoc, List.append_assoc]
  have hfan : ∀ i, i < 256 → fan L i = cnt l i := fun i hi => by
    unfold fan
    rw [sF (by omega), ← hF, sl_flat (k := 4) (List.range 256) i i (fun c _ => bigB_length _ _) (by rw [List.getElem?_range hi])]
    refine num8_bigB 4 _ ?_
    have h7 := cnt_le l i
    have h8 := h.few
    have : (256 : Nat) ^ 4 = 4294967296 := rfl
    omega
  have hn : fan L 255 = l.length := by rw [hfan 255 (by omega), cnt_all]
  have hfar : farL L l.length = Q := by
    unfold farL
    rw [show L.length - 40 - (1032 + 28 * l.length) = Q.length by omega]
    have := sQ (j := 0) (m := Q.length) (by omega)
    rw [Nat.add_zero] at this
    rw [this]; unfold sl; rw [List.drop_zero, List.take_length]
  have hraw : ∀ i r, l[i]? = some r → sl L (1032 + 20 * i) 20 = r.1 := fun i r hr => by
    have hi := (List.getElem?_eq_some_iff.1 hr).1
    rw [sN (by omega), ← hN, sl_flat (f := fun r : Rw => r.1) (k := 20) l i r h.raw hr]
  have hstep : ∀ i r, l[i]? = some r → stepE L l.length i = .ok r := fun i r hr => by
    have hi := (List.getElem?_eq_some_iff.1 hr).1
    have hrm : r ∈ l := List.mem_of_getElem? hr
    unfold stepE
    rw [hraw i r hr]
    have hc : hd0 r.1 < 256 := (r.1.headD 0).toNat_lt
    have e1 : fanB L (hd0 r.1 + 1) = cnt l (hd0 r.1) := by unfold fanB; rw [if_neg (by omega)]; exact hfan _ hc
    have e2 : fanB L (hd0 r.1) ≤ i := by
      unfold fanB
      split
      · exact Nat.zero_le _
      · rw [hfan _ (by omega)]; exact cnt_lo h hr (by omega)
    have hno : ¬ (0 < i ∧ ¬ sl L (1032 + 20 * i - 20) 20 < r.1) := fun hh => by
      refine hh.2 ?_
      have h0 := hh.1
      have hp : l[i - 1]? = some l[i - 1] := List.getElem?_eq_getElem (by omega)
      have := hraw (i - 1) _ hp
      rw [show 1032 + 20 * i - 20 = 1032 + 20 * (i - 1) by omega, this]
      have h7 := (List.pairwise_iff_getElem.1 h.rise) (i - 1) i (by omega) hi (by omega)
      rw [(List.getElem?_eq_some_iff.1 hr).2] at h7
      exact h7
    rw [if_neg hno, if_neg (by omega), if_neg (by rw [e1]; have := cnt_hi h hr; omega)]
    have hval : ∃ v, (nearV far 0 l)[i]? = some v ∧ v < 4294967296 ∧ placeE Q v = .ok r.2.1 := by
      obtain ⟨g1, g2⟩ := nearV_at far 0 l i r hr
      by_cases hf : isFar far r = true
      · obtain ⟨g3, g4⟩ := g1 hf
        have hk := (List.getElem?_eq_some_iff.1 g4).1
        have hk2 := List.length_filter_le (isFar far) l
        have := h.few
        refine ⟨_, g3, by omega, ?_⟩
        generalize ((l.take i).filter (isFar far)).length = k at g4 hk ⊢
        unfold placeE
        rw [if_neg (by omega), show 2147483648 + 0 + k - 2147483648 = k by omega, if_neg (by omega), ← hQ, sl_flat (k := 8) (l.filter (isFar far)) k r (fun r _ => bigB_length _ _) g4]
        rw [num8_bigB 8 _ (by have := h.place r hrm; have : (256 : Nat) ^ 8 = 18446744073709551616 := rfl; omega)]
      · have hf : isFar far r = false := by simpa using hf
        have := near_far hf
        refine ⟨_, g2 hf, by omega, ?_⟩
        unfold placeE
        rw [if_pos this]
    obtain ⟨v, hv, hvl, hp⟩ := hval
    have ev : num8 (sl L (1032 + 24 * l.length + 4 * i) 4) = v := by
      rw [sV (by omega), ← hV, sl_flat (k := 4) (nearV far 0 l) i v (fun c _ => bigB_length _ _) hv]
      exact num8_bigB 4 _ hvl
    have ec : num8 (sl L (1032 + 20 * l.length + 4 * i) 4) = r.2.2 := by
      rw [sC (by omega), ← hC, sl_flat (f := fun r : Rw => bigB 4 r.2.2) (k := 4) l i r (fun c _ => bigB_length _ _) hr]
      exact num8_bigB 4 _ (h.crc r hrm)
    rw [hfar, ev, hp, ec]
    simp only
    rw [if_neg (by have := h.place r hrm; omega)]
  have hrows : ∀ k i, i + k = l.length → rowsE L l.length i k = .ok (l.drop i) := by
    intro k
    induction k with
    | zero => intro i hik; rw [rowsE, List.drop_eq_nil_of_le (by omega)]
    | succ k ih =>
      intro i hik
      have hi : i < l.length := by omega
      rw [rowsE, hstep i l[i] (List.getElem?_eq_getElem hi), ih (i + 1) (by omega)]
      simp only
      rw [← List.drop_eq_getElem_cons hi]
  rw [hL]
  unfold parseE
  have hmag : L.take 8 = magic := by rw [eL, List.take_left' hm8]
  have hmono : ¬ ∃ i, i < 255 ∧ fan L (i + 1) < fan L i := fun ⟨i, hi, hlt⟩ => by
    rw [hfan _ (by omega), hfan _ (by omega)] at hlt
    have := cnt_mono l i
    omega
  rw [hn, if_neg (by omega), if_neg (fun hh => hh hmag), if_neg hmono, if_neg (by have := h.few; omega), if_neg (by omega), if_neg (by omega), hrows l.length 0 (by omega)]
  simp only
  have hbl : L.length - 20 = (bodyT far l sum).length := by omega
  rw [if_neg, List.drop_zero]
  · have : sl L (L.length - 40) 20 = sum := by
      have h7 := sl_mid (magic ++ (F ++ (N ++ (C ++ (V ++ Q))))) sum T (j := 0) (m := 20) (by omega)
      rw [List.length_append, List.length_append, List.length_append, List.length_append, List.length_append, hm8, h1, h2, h3, h4, h5, Nat.add_zero] at h7
      rw [show L.length - 40 = 8 + (1024 + (20 * l.length + (4 * l.length + (4 * l.length + 8 * (l.filter (isFar far)).length)))) by omega, eL]
      simp only [List.append_assoc] at h7
      rw [h7]; unfold sl; rw [List.drop_zero, List.take_of_length_le (by omega)]
    rw [this]
  · rw [hbl, hLb, List.take_left, List.drop_left, hT]
    exact fun hh => hh rfl
end
end PkM

/- The order of texts in plain. No condition. -/
set_option linter.unusedVariables false
namespace Go.Proofs.YtaaimcbicpgjoaaGreatDoor
open Go Vc Go.Proofs Go.Lib

theorem cmp_lt : ∀ a b : List UInt8, Lib.compareBytes a b < 0 ↔ a < b
  | [], [] => by simp [Lib.compareBytes]
  | [], _ :: _ => by simp [Lib.compareBytes]
  | _ :: _, [] => by simp [Lib.compareBytes]
  | a :: ra, b :: rb => by
    rw [Lib.compareBytes, List.cons_lt_cons_iff]
    by_cases h1 : a < b
    · rw [if_pos h1]; exact ⟨fun _ => .inl h1, fun _ => by decide⟩
    · rw [if_neg h1]
      by_cases h2 : b < a
      · rw [if_pos h2]
        refine ⟨fun h => absurd h (by decide), fun h => ?_⟩
        rcases h with h | ⟨h, _⟩
        · exact absurd h h1
        · rw [h] at h2; exact absurd h2 (by rw [UInt8.lt_iff_toNat_lt]; omega)
      · rw [if_neg h2, cmp_lt ra rb]
        have : a = b := UInt8.toNat_inj.1 (by rw [UInt8.lt_iff_toNat_lt] at h1 h2; omega)
        exact ⟨fun h => .inr ⟨this, h⟩, fun h => h.resolve_left h1 |>.2⟩
theorem cmp_zero : ∀ a b : List UInt8, Lib.compareBytes a b = 0 ↔ a = b
  | [], [] => by simp [Lib.compareBytes]
  | [], _ :: _ => by simp [Lib.compareBytes]
  | _ :: _, [] => by simp [Lib.compareBytes]
  | a :: ra, b :: rb => by
    rw [Lib.compareBytes]
    by_cases h1 : a < b
    · rw [if_pos h1]
      refine ⟨fun h => absurd h (by decide), fun h => ?_⟩
      cases h; exact absurd h1 (by rw [UInt8.lt_iff_toNat_lt]; omega)
    · rw [if_neg h1]
      by_cases h2 : b < a
      · rw [if_pos h2]
        refine ⟨fun h => absurd h (by decide), fun h => ?_⟩
        cases h; exact absurd h2 (by rw [UInt8.lt_iff_toNat_lt]; omega)
      · rw [if_neg h2, cmp_zero ra rb]
        have : a = b := UInt8.toNat_inj.1 (by rw [UInt8.lt_iff_toNat_lt] at h1 h2; omega)
        subst this
        simp
theorem lt_tri (a b : List UInt8) : a < b ∨ a = b ∨ b < a := by
  rcases Decidable.em (a < b) with h | h
  · exact .inl h
  · rcases Decidable.em (a = b) with h' | h'
    · exact .inr (.inl h')
    · exact .inr (.inr (Std.lt_of_le_of_ne (Std.not_lt.1 h) fun e => h' e.symm))
end Go.Proofs.YtaaimcbicpgjoaaGreatDoor

/- Rows of an index as the program has them: which are right, in what order they stand, and as what rows of bytes. No condition. -/
set_option linter.unusedVariables false
namespace Go.Proofs.YtaaimcbicpgjoaaGreatDoor
open Go Vc HexM SumM Go.Proofs

abbrev PRow := ByteArray × Int × Int
def encP (r : PRow) : List Value := [.string r.1, .int .i64 r.2.1, .int .u32 r.2.2]
def okRow (r : PRow) : Prop := isId r.1.data.toList = true ∧ 0 ≤ r.2.1 ∧ r.2.1 ≤ 1099511627776
def Fits (r : PRow) : Prop := 0 ≤ r.2.2 ∧ r.2.2 < 4294967296
def CheckP (rs : List PRow) : Prop := (∀ r ∈ rs, okRow r) ∧ rs.Pairwise fun x y => x.1 ≠ y.1
def RiseP (rs : List PRow) : Prop := rs.Pairwise fun x y => x.1.data.toList < y.1.data.toList
def NearP (rs : List PRow) : Prop := rs.Pairwise fun x y => ¬ y.1.data.toList < x.1.data.toList
def insP (r : PRow) : List PRow → List PRow
  | [] => [r]
  | x :: xs => if r.1.data.toList < x.1.data.toList then r :: x :: xs else x :: insP r xs
def sortP (rs : List PRow) : List PRow := rs.foldl (fun o r => insP r o) []
theorem insP_perm (r : PRow) : ∀ xs, (insP r xs).Perm (r :: xs)
  | [] => .refl _
  | x :: xs => by
    rw [insP]
    split
    · exact .refl _
    · exact ((insP_perm r xs).cons x).trans (List.Perm.swap r x xs)
theorem insP_near (r : PRow) : ∀ xs, NearP xs → NearP (insP r xs)
  | [], _ => List.pairwise_singleton _ _
  | x :: xs, h => by
    obtain ⟨h1, h2⟩ := List.pairwise_cons.1 h
    rw [insP]
    by_cases hl : r.1.data.toList < x.1.data.toList
    · rw [if_pos hl]
      refine List.pairwise_cons.2 ⟨fun y hy => ?_, h⟩
      rcases List.mem_cons.1 hy with rfl | hy
      · exact List.lt_asymm hl
      · intro hh
        exact h1 y hy (List.lt_trans hh hl)
    · rw [if_neg hl]
      refine List.pairwise_cons.2 ⟨fun y hy => ?_, insP_near r xs h2⟩
      rcases List.mem_cons.1 ((insP_perm r xs).subset hy) with rfl | hy
      · exact hl
      · exact h1 y hy
theorem fold_ins : ∀ (rs o : List PRow), NearP o → (rs.foldl (fun o r => insP r o) o).Perm (o ++ rs) ∧ NearP (rs.foldl (fun o r => insP r o) o)
  | [], o, h => ⟨by simp, h⟩
  | r :: rs, o, h => by
    obtain ⟨h1, h2⟩ := fold_ins rs (insP r o) (insP_near r o h)
    refine ⟨h1.trans ?_, h2⟩
    refine ((insP_perm r o).append_right rs).trans ?_
    rw [List.cons_append]
    exact List.perm_middle.symm
theorem sortP_perm (rs : List PRow) : (sortP rs).Perm rs := by simpa [sortP] using (fold_ins rs [] List.Pairwise.nil).1
theorem sortP_near (rs : List PRow) : NearP (sortP rs) := (fold_ins rs [] List.Pairwise.nil).2
theorem near_rise {rs : List PRow} (h : NearP rs) (hd : rs.Pairwise fun x y => x.1 ≠ y.1) : RiseP rs := by
  refine (h.and hd).imp fun {x y} hh => ?_
  obtain ⟨h1, h2⟩ := hh
  rcases lt_tri x.1.data.toList y.1.data.toList with h3 | h3 | h3
  · exact h3
  · exact absurd (bs_ext h3) h2
  · exact absurd h3 h1
theorem riseP_eq {a b : List PRow} (h1 : RiseP a) (h2 : RiseP b) (hp : a.Perm b) : a = b := by
  refine List.Perm.eq_of_pairwise (le := fun x y : PRow => x.1.data.toList < y.1.data.toList) ?_ h1 h2 hp
  intro x y _ _ h3 h4
  exact absurd (List.lt_trans h3 h4) (List.lt_irrefl _)
theorem pw_perm {a b : List PRow} (hp : a.Perm b) (h : a.Pairwise fun x y => x.1 ≠ y.1) : b.Pairwise fun x y => x.1 ≠ y.1 := hp.pairwise h fun h e => h e.symm
theorem checkP_perm {a b : List PRow} (hp : a.Perm b) (h : CheckP a) : CheckP b := ⟨fun r hr => h.1 r (hp.symm.subset hr), pw_perm hp h.2⟩
/-- Neighbours alone are looked at. -/
theorem adj_rise {ys : List PRow} (h : NearP ys) (ha : ∀ i x y, ys[i]? = some x → ys[i + 1]? = some y → x.1 ≠ y.1) : RiseP ys := by
  have key : ∀ d i : Nat, ∀ x y, ys[i]? = some x → ys[i + d + 1]? = some y → x.1.data.toList < y.1.data.toList := by
    intro d
    induction d with
    | zero =>
      intro i x y hx hy
      have h1 := (List.pairwise_iff_getElem.1 h) i (i + 1) (List.getElem?_eq_some_iff.1 hx).1 (List.getElem?_eq_some_iff.1 hy).1 (by omega)
      rw [(List.getElem?_eq_some_iff.1 hx).2, show ys[i + 1]'((List.getElem?_eq_some_iff.1 hy).1) = y from (List.getElem?_eq_some_iff.1 hy).2] at h1
      rcases lt_tri x.1.data.toList y.1.data.toList with h3 | h3 | h3
      · exact h3
      · exact absurd (bs_ext h3) (ha i x y hx hy)
      · exact absurd h3 h1
    | succ d ih =>
      intro i x y hx hy
      have hl := (List.getElem?_eq_some_iff.1 hy).1
      obtain ⟨z, hz⟩ : ∃ z, ys[i + d + 1]? = some z := ⟨_, List.getElem?_eq_getElem (by omega)⟩
      have h1 := ih i x z hx hz
      have hy' : ys[(i + d + 1) + 1]? = some y := hy
      have h2 := (List.pairwise_iff_getElem.1 h) (i + d + 1) (i + d + 1 + 1) (by omega) (by omega) (by omega)
      rw [(List.getElem?_eq_some_iff.1 hz).2, (List.getElem?_eq_some_iff.1 hy').2] at h2
      rcases lt_tri z.1.data.toList y.1.data.toList with h3 | h3 | h3
      · exact List.lt_trans h1 h3
      · rw [← h3]; exact h1
      · exact absurd h3 h2
  unfold RiseP
  rw [List.pairwise_iff_getElem]
  intro i j hi hj hij
  exact key (j - i - 1) i ys[i] ys[j] (List.getElem?_eq_getElem hi) (by rw [show i + (j - i - 1) + 1 = j by omega]; exact List.getElem?_eq_getElem hj)
theorem rise_dist {ys : List PRow} (h : RiseP ys) : ys.Pairwise fun x y => x.1 ≠ y.1 := h.imp fun h e => by rw [e] at h; exact List.lt_irrefl _ h
/-! ### As rows of bytes -/
theorem hx_mono {a b : Nat} (ha : a < 16) (hb : b < 16) : UInt8.ofNat (hx a) < UInt8.ofNat (hx b) ↔ a < b := by
  rw [UInt8.lt_iff_toNat_lt]
  have h1 := hx_lt ha
  have h2 := hx_lt hb
  rw [toNat_of _ h1, toNat_of _ h2]
  unfold hx
  split <;> split <;> omega
theorem hx_inj {a b : Nat} (ha : a < 16) (hb : b < 16) (h : UInt8.ofNat (hx a) = UInt8.ofNat (hx b)) : a = b := by
  rcases Nat.lt_trichotomy a b with h1 | h1 | h1
  · have := (hx_mono ha hb).2 h1
    rw [h] at this
    rw [UInt8.lt_iff_toNat_lt] at this; omega
  · exact h1
  · have := (hx_mono hb ha).2 h1
    rw [h] at this
    rw [UInt8.lt_iff_toNat_lt] at this; omega
theorem hexL_lt : ∀ a b : List UInt8, hexL a < hexL b ↔ a < b
  | [], [] => by simp [hexL]
  | [], y :: b => by
    refine ⟨fun _ => List.nil_lt_cons y b, fun _ => ?_⟩
    show ([] : List UInt8) < _ :: _
    exact List.nil_lt_cons _ _
  | x :: a, [] => by
    refine ⟨fun h => ?_, fun h => absurd h (List.not_lt_nil _)⟩
    exact absurd h (List.not_lt_nil _)
  | x :: a, y :: b => by
    have h1 : hexL (x :: a) = UInt8.ofNat (hx (x.toNat / 16)) :: UInt8.ofNat (hx (x.toNat % 16)) :: hexL a := rfl
    have h2 : hexL (y :: b) = UInt8.ofNat (hx (y.toNat / 16)) :: UInt8.ofNat (hx (y.toNat % 16)) :: hexL b := rfl
    have hx1 := x.toNat_lt
    have hy1 := y.toNat_lt
    rw [h1, h2, List.cons_lt_cons_iff, List.cons_lt_cons_iff, List.cons_lt_cons_iff, hexL_lt a b, hx_mono (by omega) (by omega), hx_mono (by omega) (by omega), UInt8.lt_iff_toNat_lt]
    constructor
    · rintro (h | ⟨h3, h | ⟨h4, h⟩⟩)
      · exact .inl (by omega)
      · have := hx_inj (by omega) (by omega) h3
        exact .inl (by omega)
      · have e1 := hx_inj (by omega) (by omega) h3
        have e2 := hx_inj (by omega) (by omega) h4
        exact .inr ⟨UInt8.toNat_inj.1 (by omega), h⟩
    · rintro (h | ⟨rfl, h⟩)
      · by_cases h5 : x.toNat / 16 < y.toNat / 16
        · exact .inl h5
        · have h6 : x.toNat / 16 = y.toNat / 16 := by omega
          exact .inr ⟨by rw [h6], .inl (by omega)⟩
      · exact .inr ⟨rfl, .inr ⟨rfl, h⟩⟩
def rawB (s : ByteArray) : List UInt8 := (unhexL s.data.toList).getD []
def rawOf (r : PRow) : PkM.Rw := (rawB r.1, r.2.1.toNat, r.2.2.toNat)
def ofRaw (x : PkM.Rw) : PRow := (⟨(hexL x.1).toArray⟩, (x.2.1 : Int), (x.2.2 : Int))
theorem rawB_id {s : ByteArray} (h : isId s.data.toList = true) : unhexL s.data.toList = some (rawB s) ∧ (rawB s).length = 20 ∧ hexL (rawB s) = s.data.toList := by
  unfold isId at h
  rw [Bool.and_eq_true] at h
  obtain ⟨r, hr⟩ := Option.isSome_iff_exists.1 h.1
  have h40 : s.data.toList.length = 40 := eq_of_beq h.2
  have hl := unhexL_len _ _ hr
  have e : rawB s = r := by unfold rawB; rw [hr]; rfl
  rw [e]
  exact ⟨hr, by omega, hex_unhex _ _ hr⟩
theorem of_raw {r : PRow} (h : okRow r) (hf : Fits r) : ofRaw (rawOf r) = r := by
  obtain ⟨h1, h2, h3⟩ := rawB_id h.1
  obtain ⟨a, b, c⟩ := r
  unfold ofRaw rawOf
  have e1 : (⟨(hexL (rawB a)).toArray⟩ : ByteArray) = a := bs_ext (by rw [bs_mk]; exact h3)
  have e2 : ((b.toNat : Nat) : Int) = b := Int.toNat_of_nonneg h.2.1
  have e3 : ((c.toNat : Nat) : Int) = c := Int.toNat_of_nonneg hf.1
  simp only
  rw [e1, e2, e3]
theorem raw_good {ys : List PRow} (h : CheckP ys) (hr : RiseP ys) (hf : ∀ r ∈ ys, Fits r) (hl : ys.length ≤ 1000) : PkM.Good (ys.map rawOf) where
  raw r hm := by
    obtain ⟨y, hy, rfl⟩ := List.mem_map.1 hm
    exact (rawB_id (h.1 y hy).1).2.1
  place r hm := by
    obtain ⟨y, hy, rfl⟩ := List.mem_map.1 hm
    have := (h.1 y hy).2
    show y.2.1.toNat ≤ _
    omega
  crc r hm := by
    obtain ⟨y, hy, rfl⟩ := List.mem_map.1 hm
    have := hf y hy
    show y.2.2.toNat < _
    unfold Fits at this; omega
  rise := by
    rw [List.pairwise_map]
    refine List.Pairwise.imp_of_mem (fun {x y} hx hy hlt => ?_) hr
    show rawB x.1 < rawB y.1
    rw [← hexL_lt, (rawB_id (h.1 x hx).1).2.2, (rawB_id (h.1 y hy).1).2.2]
    exact hlt
  few := by rw [List.length_map]; exact hl
theorem raw_back {ys : List PRow} (h : CheckP ys) (hf : ∀ r ∈ ys, Fits r) : (ys.map rawOf).map ofRaw = ys := by
  rw [List.map_map]
  exact (List.map_congr_left fun r hr => of_raw (h.1 r hr) (hf r hr)).trans (List.map_id _)
theorem of_rise {l : List PkM.Rw} (h : l.Pairwise fun x y => x.1 < y.1) : RiseP (l.map ofRaw) := by
  unfold RiseP
  rw [List.pairwise_map]
  refine h.imp fun {x y} hlt => ?_
  show (⟨(hexL x.1).toArray⟩ : ByteArray).data.toList < (⟨(hexL y.1).toArray⟩ : ByteArray).data.toList
  rw [bs_mk, bs_mk, hexL_lt]; exact hlt
end Go.Proofs.YtaaimcbicpgjoaaGreatDoor
namespace PkM
open SumM
/-- What is told of an index that is read: the names rise. -/
theorem rows_rise {L : List UInt8} {n : Nat} : ∀ (k i : Nat) (rs : List Rw), rowsE L n i k = .ok rs → rs.length = k ∧ ∀ j r, rs[j]? = some r → stepE L n (i + j) = .ok r
  | 0, i, rs, h => by
    rw [rowsE] at h; cases h
    exact ⟨rfl, fun j r hr => by simp at hr⟩
  | k + 1, i, rs, h => by
    rw [rowsE] at h
    cases hs : stepE L n i with
    | error e => rw [hs] at h; cases h
    | ok r =>
      rw [hs] at h
      simp only at h
      cases hr : rowsE L n (i + 1) k with
      | error e => rw [hr] at h; cases h
      | ok rs' =>
        rw [hr] at h
        simp only at h
        cases h
        obtain ⟨h1, h2⟩ := rows_rise k (i + 1) rs' hr
        refine ⟨by rw [List.length_cons, h1], fun j x hx => ?_⟩
        cases j with
        | zero => simp only [List.getElem?_cons_zero, Option.some.injEq] at hx; subst hx; exact hs
        | succ j =>
          rw [List.getElem?_cons_succ] at hx
          have := h2 j x hx
          rwa [show i + 1 + j = i + (j + 1) by omega] at this
theorem step_ok {L : List UInt8} {n i : Nat} {r : Rw} (h : stepE L n i = .ok r) : r.1 = sl L (1032 + 20 * i) 20 ∧ (0 < i → sl L (1032 + 20 * (i - 1)) 20 < r.1) ∧ r.2.1 ≤ 1099511627776 ∧ r.2.2 = num8 (sl L (1032 + 20 * n + 4 * i) 4) := by
  unfold stepE at h
  split at h
  · cases h
  rename_i h1
  split at h
  · cases h
  split at h
  · cases h
  split at h
  · cases h
  · rename_i a _
    split at h
    · cases h
    · rename_i ha
      cases h
      refine ⟨rfl, fun h0 => ?_, by simp only; omega, rfl⟩
      refine Classical.byContradiction fun hn => h1 ⟨h0, ?_⟩
      rw [show 1032 + 20 * i - 20 = 1032 + 20 * (i - 1) by omega]
      exact hn
theorem rows_sorted {L : List UInt8} {n : Nat} {rs : List Rw} (h : rowsE L n 0 n = .ok rs) (hL : 1072 + 28 * n ≤ L.length) : rs.length = n ∧ (∀ r ∈ rs, r.1.length = 20 ∧ r.2.1 ≤ 1099511627776 ∧ r.2.2 < 4294967296) ∧ rs.Pairwise fun x y => x.1 < y.1 := by
  obtain ⟨h1, h2⟩ := rows_rise n 0 rs h
  have h3 : ∀ j r, rs[j]? = some r → stepE L n j = .ok r := fun j r hr => by have := h2 j r hr; rwa [Nat.zero_add] at this
  refine ⟨h1, fun r hr => ?_, ?_⟩
  · obtain ⟨j, hj⟩ := List.mem_iff_getElem?.1 hr
    have hjl := (List.getElem?_eq_some_iff.1 hj).1
    obtain ⟨a, _, c, d⟩ := step_ok (h3 j r hj)
    refine ⟨by rw [a]; exact sl_len (by omega), c, ?_⟩
    rw [d]
    exact num8_lt 4 _ (sl_len (by omega))
  · have key : ∀ d i : Nat, ∀ x y, rs[i]? = some x → rs[i + d + 1]? = some y → x.1 < y.1 := by
      intro d
      induction d with
      | zero =>
        intro i x y hx hy
        obtain ⟨a, _⟩ := step_ok (h3 i x hx)
        obtain ⟨_, b, _⟩ := step_ok (h3 _ y hy)
        have := b (by omega)
        rw [show i + 0 + 1 - 1 = i by omega] at this
        rw [a]; exact this
      | succ d ih =>
        intro i x y hx hy
        have hl := (List.getElem?_eq_some_iff.1 hy).1
        obtain ⟨z, hz⟩ : ∃ z, rs[i + d + 1]? = some z := ⟨_, List.getElem?_eq_getElem (by omega)⟩
        obtain ⟨a, _⟩ := step_ok (h3 _ z hz)
        obtain ⟨_, b, _⟩ := step_ok (h3 _ y hy)
        have := b (by omega)
        rw [show i + (d + 1) + 1 - 1 = i + d + 1 by omega, ← a] at this
        exact List.lt_trans (ih i x z hx hz) this
    rw [List.pairwise_iff_getElem]
    intro i j hi hj hij
    exact key (j - i - 1) i rs[i] rs[j] (List.getElem?_eq_getElem hi) (by rw [show i + (j - i - 1) + 1 = j by omega]; exact List.getElem?_eq_getElem hj)
end PkM

/- Formulas of 1 Go functions of this seat (written by a program of the author's, vcgen.py), and that each is enough for the call. No condition. -/
set_option linter.unusedVariables false
namespace Go.Proofs.YtaaimcbicpgjoaaGreatDoor
open Go Vc Go.Proofs
set_option maxRecDepth 100000
/-- packidx.Parse -/
def vc_packidx_Parse (x0 : ByteArray) (w : World) (R : Value → World → Prop) : Prop :=
 (((decide ((↑(ByteArray.size x0) : Int) < 1072) = true →
 R (Value.tuple (Array.mk [Value.pointer none, Value.int IntKind.i64 6])) w)) ∧
 (decide ((↑(ByteArray.size x0) : Int) < 1072) = false →
 (((0 : Int) ≤ (8 : Int) ∧
 8 ≤ (↑(ByteArray.size x0) : Int)) ∧
 ((((!ByteArray.toList (ByteArray.extract x0 0 (Int.toNat 8)) == ByteArray.toList (ByteArray.mk (Array.mk [255, 116, 79, 99, 0, 0, 0, 2]))) = true →
 R (Value.tuple (Array.mk [Value.pointer none, Value.int IntKind.i64 3])) w)) ∧
 ((!ByteArray.toList (ByteArray.extract x0 0 (Int.toNat 8)) == ByteArray.toList (ByteArray.mk (Array.mk [255, 116, 79, 99, 0, 0, 0, 2]))) = false →
 ∀ w1 : World,
 (w1 = World.alloc w (Obj.cells (Array.mk [Value.slice none 0 0, Value.int IntKind.i64 0, Value.int IntKind.i64 0, Value.int IntKind.i64 0, Value.int IntKind.i64 0, Value.int IntKind.i64 0, Value.int IntKind.i64 0, Value.int IntKind.i64 0, Value.int IntKind.i64 0, Value.int IntKind.i64 0, Value.int IntKind.i64 0, Value.int IntKind.i64 0, Value.int IntKind.i64 0, Value.int IntKind.i64 0, Value.int IntKind.i64 0, Value.int IntKind.i64 0, Value.int IntKind.i64 0, Value.int IntKind.i64 0, Value.int IntKind.i64 0, Value.int IntKind.i64 0, Value.int IntKind.i64 0, Value.int IntKind.i64 0, Value.int IntKind.i64 0, Value.int IntKind.i64 0, Value.int IntKind.i64 0, Value.int IntKind.i64 0, Value.int IntKind.i64 0, Value.int IntKind.i64 0, Value.int IntKind.i64 0, Value.int IntKind.i64 0, Value.int IntKind.i64 0, Value.int IntKind.i64 0, Value.int IntKind.i64 0, Value.int IntKind.i64 0, Value.int IntKind.i64 0, Value.int IntKind.i64 0, Value.int IntKind.i64 0, Value.int IntKind.i64 0, Value.int IntKind.i64 0, Value.int IntKind.i64 0, Value.int IntKind.i64 0, Value.int IntKind.i64 0, Value.int IntKind.i64 0, Value.int IntKind.i64 0, Value.int IntKind.i64 0, Value.int IntKind.i64 0, Value.int IntKind.i64 0, Value.int IntKind.i64 0, Value.int IntKind.i64 0, Value.int IntKind.i64 0, Value.int IntKind.i64 0, Value.int IntKind.i64 0, Value.int IntKind.i64 0, Value.int IntKind.i64 0, Value.int IntKind.i64 0, Value.int IntKind.i64 0, Value.int IntKind.i64 0, Value.int IntKind.i64 0, Value.int IntKind.i64 0, Value.int IntKind.i64 0, Value.int IntKind.i64 0, Value.int IntKind.i64 0, Value.int IntKind.i64 0, Value.int IntKind.i64 0, Value.int IntKind.i64 0, Value.int IntKind.i64 0, Value.int IntKind.i64 0, Value.int IntKind.i64 0, Value.int IntKind.i64 0, Value.int IntKind.i64 0, Value.int IntKind.i64 0, Value.int IntKind.i64 0, Value.int IntKind.i64 0, Value.int IntKind.i64 0, Value.int IntKind.i64 0, Value.int IntKind.i64 0, Value.int IntKind.i64 0, Value.int IntKind.i64 0, Value.int IntKind.i64 0, Value.int IntKind.i64 0, Value.int IntKind.i64 0, Value.int IntKind.i64 0, Value.int IntKind.i64 0, Value.int IntKind.i64 0, Value.int IntKind.i64 0, Value.int IntKind.i64 0, Value.int IntKind.i64 0, Value.int IntKind.i64 0, Value.int IntKind.i64 0, Value.int IntKind.i64 0, Value.int IntKind.i64 0, Value.int IntKind.i64 0, Value.int IntKind.i64 0, Value.int IntKind.i64 0, Value.int IntKind.i64 0, Value.int IntKind.i64 0, Value.int IntKind.i64 0, Value.int IntKind.i64 0, Value.int IntKind.i64 0, Value.int IntKind.i64 0, Value.int IntKind.i64 0, Value.int IntKind.i64 0, Value.int IntKind.i64 0, Value.int IntKind.i64 0, Value.int IntKind.i64 0, Value.int IntKind.i64 0, Value.int IntKind.i64 0, Value.int IntKind.i64 0, Value.int IntKind.i64 0, Value.int IntKind.i64 0, Value.int IntKind.i64 0, Value.int IntKind.i64 0, Value.int IntKind.i64 0, Value.int IntKind.i64 0, Value.int IntKind.i64 0, Value.int IntKind.i64 0, Value.int IntKind.i64 0, Value.int IntKind.i64 0, Value.int IntKind.i64 0, Value.int IntKind.i64 0, Value.int IntKind.i64 0, Value.int IntKind.i64 0, Value.int IntKind.i64 0, Value.int IntKind.i64 0, Value.int IntKind.i64 0, Value.int IntKind.i64 0, Value.int IntKind.i64 0, Value.int IntKind.i64 0, Value.int IntKind.i64 0, Value.int IntKind.i64 0, Value.int IntKind.i64 0, Value.int IntKind.i64 0, Value.int IntKind.i64 0, Value.int IntKind.i64 0, Value.int IntKind.i64 0, Value.int IntKind.i64 0, Value.int IntKind.i64 0, Value.int IntKind.i64 0, Value.int IntKind.i64 0, Value.int IntKind.i64 0, Value.int IntKind.i64 0, Value.int IntKind.i64 0, Value.int IntKind.i64 0, Value.int IntKind.i64 0, Value.int IntKind.i64 0, Value.int IntKind.i64 0, Value.int IntKind.i64 0, Value.int IntKind.i64 0, Value.int IntKind.i64 0, Value.int IntKind.i64 0, Value.int IntKind.i64 0, Value.int IntKind.i64 0, Value.int IntKind.i64 0, Value.int IntKind.i64 0, Value.int IntKind.i64 0, Value.int IntKind.i64 0, Value.int IntKind.i64 0, Value.int IntKind.i64 0, Value.int IntKind.i64 0, Value.int IntKind.i64 0, Value.int IntKind.i64 0, Value.int IntKind.i64 0, Value.int IntKind.i64 0, Value.int IntKind.i64 0, Value.int IntKind.i64 0, Value.int IntKind.i64 0, Value.int IntKind.i64 0, Value.int IntKind.i64 0, Value.int IntKind.i64 0, Value.int IntKind.i64 0, Value.int IntKind.i64 0, Value.int IntKind.i64 0, Value.int IntKind.i64 0, Value.int IntKind.i64 0, Value.int IntKind.i64 0, Value.int IntKind.i64 0, Value.int IntKind.i64 0, Value.int IntKind.i64 0, Value.int IntKind.i64 0, Value.int IntKind.i64 0, Value.int IntKind.i64 0, Value.int IntKind.i64 0, Value.int IntKind.i64 0, Value.int IntKind.i64 0, Value.int IntKind.i64 0, Value.int IntKind.i64 0, Value.int IntKind.i64 0, Value.int IntKind.i64 0, Value.int IntKind.i64 0, Value.int IntKind.i64 0, Value.int IntKind.i64 0, Value.int IntKind.i64 0, Value.int IntKind.i64 0, Value.int IntKind.i64 0, Value.int IntKind.i64 0, Value.int IntKind.i64 0, Value.int IntKind.i64 0, Value.int IntKind.i64 0, Value.int IntKind.i64 0, Value.int IntKind.i64 0, Value.int IntKind.i64 0, Value.int IntKind.i64 0, Value.int IntKind.i64 0, Value.int IntKind.i64 0, Value.int IntKind.i64 0, Value.int IntKind.i64 0, Value.int IntKind.i64 0, Value.int IntKind.i64 0, Value.int IntKind.i64 0, Value.int IntKind.i64 0, Value.int IntKind.i64 0, Value.int IntKind.i64 0, Value.int IntKind.i64 0, Value.int IntKind.i64 0, Value.int IntKind.i64 0, Value.int IntKind.i64 0, Value.int IntKind.i64 0, Value.int IntKind.i64 0, Value.int IntKind.i64 0, Value.int IntKind.i64 0, Value.int IntKind.i64 0, Value.int IntKind.i64 0, Value.int IntKind.i64 0, Value.int IntKind.i64 0, Value.int IntKind.i64 0, Value.int IntKind.i64 0, Value.int IntKind.i64 0, Value.int IntKind.i64 0, Value.int IntKind.i64 0, Value.int IntKind.i64 0, Value.int IntKind.i64 0, Value.int IntKind.i64 0, Value.int IntKind.i64 0, Value.int IntKind.i64 0, Value.int IntKind.i64 0, Value.int IntKind.i64 0, Value.int IntKind.i64 0, Value.int IntKind.i64 0, Value.int IntKind.i64 0, Value.int IntKind.i64 0, Value.int IntKind.i64 0, Value.int IntKind.i64 0, Value.int IntKind.i64 0, Value.int IntKind.i64 0, Value.int IntKind.i64 0, Value.int IntKind.i64 0, Value.int IntKind.i64 0, Value.int IntKind.i64 0, Value.int IntKind.i64 0, Value.int IntKind.i64 0, Value.int IntKind.i64 0, Value.int IntKind.i64 0, Value.int IntKind.i64 0, Value.int IntKind.i64 0, Value.int IntKind.i64 0, Value.int IntKind.i64 0, Value.int IntKind.i64 0, Value.int IntKind.i64 0, Value.string (ByteArray.mk (Array.mk []))]) 78) →
 ∃ I2 : Int → World → Prop, ∃ I3 : Int → World → Nat, (I2 0 w1 ∧
 ∀ n4 : Int,
 ∀ w5 : World,
 (I2 n4 w5 →
 (((decide (n4 < 256) = true →
 ∀ w6 : World,
 (Drew w5 w6 →
 ∃ I7 : World → Prop, (I7 w6 ∧
 ((0 ≤ IntKind.wrap IntKind.i64 (8 + IntKind.wrap IntKind.i64 (4 * n4)) ∧
 (IntKind.wrap IntKind.i64 (8 + IntKind.wrap IntKind.i64 (4 * n4)) ≤ IntKind.wrap IntKind.i64 (12 + IntKind.wrap IntKind.i64 (4 * n4)) ∧
 IntKind.wrap IntKind.i64 (12 + IntKind.wrap IntKind.i64 (4 * n4)) ≤ (↑(ByteArray.size x0) : Int))) ∧
 Calls Tryz.prog (33 : Nat) (Array.mk [Value.string (ByteArray.extract x0 (Int.toNat (IntKind.wrap IntKind.i64 (8 + IntKind.wrap IntKind.i64 (4 * n4)))) (Int.toNat (IntKind.wrap IntKind.i64 (12 + IntKind.wrap IntKind.i64 (4 * n4)))))]) (w6) (fun e8 w9 =>
 ∃ n10 : Int, (e8 = Ending.returned (Value.int IntKind.u64 n10) ∧
 (I7 w9 ∧
 ((0 ≤ IntKind.wrap IntKind.i64 (n4 + 1) ∧
 IntKind.wrap IntKind.i64 (n4 + 1) < (↑257 : Int)) ∧
 (Wr w9 (Addr.add (Addr.mk (Array.size (World.heap w)) 1 none) (Int.toNat (IntKind.wrap IntKind.i64 (n4 + 1)) * 1)) ∧
 ∀ w11 : World,
 (w11 = World.setCell w9 (Addr.add (Addr.mk (Array.size (World.heap w)) 1 none) (Int.toNat (IntKind.wrap IntKind.i64 (n4 + 1)) * 1)) (Value.int IntKind.i64 (IntKind.wrap IntKind.i64 n10)) →
 ((0 ≤ IntKind.wrap IntKind.i64 (n4 + 1) ∧
 IntKind.wrap IntKind.i64 (n4 + 1) < (↑257 : Int)) ∧
 ∃ n12 : Int, (World.cell? w11 (Addr.add (Addr.mk (Array.size (World.heap w)) 1 none) (Int.toNat (IntKind.wrap IntKind.i64 (n4 + 1)) * 1)) = some (Value.int IntKind.i64 n12) ∧
 ((0 ≤ n4 ∧
 n4 < (↑257 : Int)) ∧
 ∃ n13 : Int, (World.cell? w11 (Addr.add (Addr.mk (Array.size (World.heap w)) 1 none) (Int.toNat n4 * 1)) = some (Value.int IntKind.i64 n13) ∧
 ∀ w14 : World,
 (Drew w11 w14 →
 (((decide (n12 < n13) = true →
 R (Value.tuple (Array.mk [Value.pointer none, Value.int IntKind.i64 3])) w14)) ∧
 (decide (n12 < n13) = false →
 (I2 (IntKind.wrap IntKind.i64 (n4 + 1)) w14 ∧
 I3 (IntKind.wrap IntKind.i64 (n4 + 1)) w14 < I3 n4 w5))))))))))))))))))) ∧
 (decide (n4 < 256) = false →
 (((0 : Int) ≤ (256 : Int) ∧
 (256 : Int) < (↑(257 : Nat) : Int)) ∧
 ∃ n15 : Int, (World.cell? w5 (Addr.add (Addr.mk (Array.size (World.heap w)) 1 none) (Int.toNat 256 * 1)) = some (Value.int IntKind.i64 n15) ∧
 (((decide (n15 > 1000) = true →
 R (Value.tuple (Array.mk [Value.pointer none, Value.int IntKind.i64 2])) w5)) ∧
 (decide (n15 > 1000) = false →
 (((decide ((↑(ByteArray.size x0) : Int) < IntKind.wrap IntKind.i64 (IntKind.wrap IntKind.i64 (1032 + IntKind.wrap IntKind.i64 (28 * n15)) + 40)) = true →
 R (Value.tuple (Array.mk [Value.pointer none, Value.int IntKind.i64 6])) w5)) ∧
 (decide ((↑(ByteArray.size x0) : Int) < IntKind.wrap IntKind.i64 (IntKind.wrap IntKind.i64 (1032 + IntKind.wrap IntKind.i64 (28 * n15)) + 40)) = false →
 ((0 ≤ IntKind.wrap IntKind.i64 (1032 + IntKind.wrap IntKind.i64 (28 * n15)) ∧
 (IntKind.wrap IntKind.i64 (1032 + IntKind.wrap IntKind.i64 (28 * n15)) ≤ IntKind.wrap IntKind.i64 ((↑(ByteArray.size x0) : Int) - 40) ∧
 IntKind.wrap IntKind.i64 ((↑(ByteArray.size x0) : Int) - 40) ≤ (↑(ByteArray.size x0) : Int))) ∧
 ((8 : Int) ≠ (0 : Int) ∧
 ((((Int.tmod (↑(ByteArray.size (ByteArray.extract x0 (Int.toNat (IntKind.wrap IntKind.i64 (1032 + IntKind.wrap IntKind.i64 (28 * n15)))) (Int.toNat (IntKind.wrap IntKind.i64 ((↑(ByteArray.size x0) : Int) - 40))))) : Int) 8 != 0) = true →
 R (Value.tuple (Array.mk [Value.pointer none, Value.int IntKind.i64 3])) w5)) ∧
 ((Int.tmod (↑(ByteArray.size (ByteArray.extract x0 (Int.toNat (IntKind.wrap IntKind.i64 (1032 + IntKind.wrap IntKind.i64 (28 * n15)))) (Int.toNat (IntKind.wrap IntKind.i64 ((↑(ByteArray.size x0) : Int) - 40))))) : Int) 8 != 0) = false →
 ∃ I16 : Int → World → Prop, ∃ I17 : Int → World → Nat, (I16 0 w5 ∧
 ∀ n18 : Int,
 ∀ w19 : World,
 (I16 n18 w19 →
 (((decide (n18 < n15) = true →
 ((0 ≤ IntKind.wrap IntKind.i64 (1032 + IntKind.wrap IntKind.i64 (20 * n18)) ∧
 (IntKind.wrap IntKind.i64 (1032 + IntKind.wrap IntKind.i64 (20 * n18)) ≤ IntKind.wrap IntKind.i64 (IntKind.wrap IntKind.i64 (1032 + IntKind.wrap IntKind.i64 (20 * n18)) + 20) ∧
 IntKind.wrap IntKind.i64 (IntKind.wrap IntKind.i64 (1032 + IntKind.wrap IntKind.i64 (20 * n18)) + 20) ≤ (↑(ByteArray.size x0) : Int))) ∧
 ∃ I20 : World → Prop, ((((decide (n18 > 0) = true →
 ((0 ≤ IntKind.wrap IntKind.i64 (IntKind.wrap IntKind.i64 (1032 + IntKind.wrap IntKind.i64 (20 * n18)) - 20) ∧
 (IntKind.wrap IntKind.i64 (IntKind.wrap IntKind.i64 (1032 + IntKind.wrap IntKind.i64 (20 * n18)) - 20) ≤ IntKind.wrap IntKind.i64 (1032 + IntKind.wrap IntKind.i64 (20 * n18)) ∧
 IntKind.wrap IntKind.i64 (1032 + IntKind.wrap IntKind.i64 (20 * n18)) ≤ (↑(ByteArray.size x0) : Int))) ∧
 ((((!Op.bytesLess (ByteArray.toList (ByteArray.extract x0 (Int.toNat (IntKind.wrap IntKind.i64 (IntKind.wrap IntKind.i64 (1032 + IntKind.wrap IntKind.i64 (20 * n18)) - 20))) (Int.toNat (IntKind.wrap IntKind.i64 (1032 + IntKind.wrap IntKind.i64 (20 * n18)))))) (ByteArray.toList (ByteArray.extract x0 (Int.toNat (IntKind.wrap IntKind.i64 (1032 + IntKind.wrap IntKind.i64 (20 * n18)))) (Int.toNat (IntKind.wrap IntKind.i64 (IntKind.wrap IntKind.i64 (1032 + IntKind.wrap IntKind.i64 (20 * n18)) + 20)))))) = true →
 ∀ w21 : World,
 (Drew w19 w21 →
 R (Value.tuple (Array.mk [Value.pointer none, Value.int IntKind.i64 3])) w21))) ∧
 ((!Op.bytesLess (ByteArray.toList (ByteArray.extract x0 (Int.toNat (IntKind.wrap IntKind.i64 (IntKind.wrap IntKind.i64 (1032 + IntKind.wrap IntKind.i64 (20 * n18)) - 20))) (Int.toNat (IntKind.wrap IntKind.i64 (1032 + IntKind.wrap IntKind.i64 (20 * n18)))))) (ByteArray.toList (ByteArray.extract x0 (Int.toNat (IntKind.wrap IntKind.i64 (1032 + IntKind.wrap IntKind.i64 (20 * n18)))) (Int.toNat (IntKind.wrap IntKind.i64 (IntKind.wrap IntKind.i64 (1032 + IntKind.wrap IntKind.i64 (20 * n18)) + 20)))))) = false →
 (((0 : Int) ≤ (0 : Int) ∧
 0 < (↑(ByteArray.size (ByteArray.extract x0 (Int.toNat (IntKind.wrap IntKind.i64 (1032 + IntKind.wrap IntKind.i64 (20 * n18)))) (Int.toNat (IntKind.wrap IntKind.i64 (IntKind.wrap IntKind.i64 (1032 + IntKind.wrap IntKind.i64 (20 * n18)) + 20))))) : Int)) ∧
 ((0 ≤ byteAt (ByteArray.extract x0 (Int.toNat (IntKind.wrap IntKind.i64 (1032 + IntKind.wrap IntKind.i64 (20 * n18)))) (Int.toNat (IntKind.wrap IntKind.i64 (IntKind.wrap IntKind.i64 (1032 + IntKind.wrap IntKind.i64 (20 * n18)) + 20)))) 0 ∧
 byteAt (ByteArray.extract x0 (Int.toNat (IntKind.wrap IntKind.i64 (1032 + IntKind.wrap IntKind.i64 (20 * n18)))) (Int.toNat (IntKind.wrap IntKind.i64 (IntKind.wrap IntKind.i64 (1032 + IntKind.wrap IntKind.i64 (20 * n18)) + 20)))) 0 < (↑257 : Int)) ∧
 ∃ n22 : Int, (World.cell? w19 (Addr.add (Addr.mk (Array.size (World.heap w)) 1 none) (Int.toNat (byteAt (ByteArray.extract x0 (Int.toNat (IntKind.wrap IntKind.i64 (1032 + IntKind.wrap IntKind.i64 (20 * n18)))) (Int.toNat (IntKind.wrap IntKind.i64 (IntKind.wrap IntKind.i64 (1032 + IntKind.wrap IntKind.i64 (20 * n18)) + 20)))) 0) * 1)) = some (Value.int IntKind.i64 n22) ∧
 (((decide (n18 < n22) = true →
 ∀ w23 : World,
 (Drew w19 w23 →
 R (Value.tuple (Array.mk [Value.pointer none, Value.int IntKind.i64 3])) w23))) ∧
 (decide (n18 < n22) = false →
 (((0 : Int) ≤ (0 : Int) ∧
 0 < (↑(ByteArray.size (ByteArray.extract x0 (Int.toNat (IntKind.wrap IntKind.i64 (1032 + IntKind.wrap IntKind.i64 (20 * n18)))) (Int.toNat (IntKind.wrap IntKind.i64 (IntKind.wrap IntKind.i64 (1032 + IntKind.wrap IntKind.i64 (20 * n18)) + 20))))) : Int)) ∧
 ((0 ≤ IntKind.wrap IntKind.i64 (IntKind.wrap IntKind.i64 (byteAt (ByteArray.extract x0 (Int.toNat (IntKind.wrap IntKind.i64 (1032 + IntKind.wrap IntKind.i64 (20 * n18)))) (Int.toNat (IntKind.wrap IntKind.i64 (IntKind.wrap IntKind.i64 (1032 + IntKind.wrap IntKind.i64 (20 * n18)) + 20)))) 0) + 1) ∧
 IntKind.wrap IntKind.i64 (IntKind.wrap IntKind.i64 (byteAt (ByteArray.extract x0 (Int.toNat (IntKind.wrap IntKind.i64 (1032 + IntKind.wrap IntKind.i64 (20 * n18)))) (Int.toNat (IntKind.wrap IntKind.i64 (IntKind.wrap IntKind.i64 (1032 + IntKind.wrap IntKind.i64 (20 * n18)) + 20)))) 0) + 1) < (↑257 : Int)) ∧
 ∃ n24 : Int, (World.cell? w19 (Addr.add (Addr.mk (Array.size (World.heap w)) 1 none) (Int.toNat (IntKind.wrap IntKind.i64 (IntKind.wrap IntKind.i64 (byteAt (ByteArray.extract x0 (Int.toNat (IntKind.wrap IntKind.i64 (1032 + IntKind.wrap IntKind.i64 (20 * n18)))) (Int.toNat (IntKind.wrap IntKind.i64 (IntKind.wrap IntKind.i64 (1032 + IntKind.wrap IntKind.i64 (20 * n18)) + 20)))) 0) + 1)) * 1)) = some (Value.int IntKind.i64 n24) ∧
 ∀ w25 : World,
 (Drew w19 w25 →
 (((decide (n18 ≥ n24) = true →
 R (Value.tuple (Array.mk [Value.pointer none, Value.int IntKind.i64 3])) w25)) ∧
 (decide (n18 ≥ n24) = false →
 I20 w25)))))))))))))))) ∧
 (decide (n18 > 0) = false →
 (((0 : Int) ≤ (0 : Int) ∧
 0 < (↑(ByteArray.size (ByteArray.extract x0 (Int.toNat (IntKind.wrap IntKind.i64 (1032 + IntKind.wrap IntKind.i64 (20 * n18)))) (Int.toNat (IntKind.wrap IntKind.i64 (IntKind.wrap IntKind.i64 (1032 + IntKind.wrap IntKind.i64 (20 * n18)) + 20))))) : Int)) ∧
 ((0 ≤ byteAt (ByteArray.extract x0 (Int.toNat (IntKind.wrap IntKind.i64 (1032 + IntKind.wrap IntKind.i64 (20 * n18)))) (Int.toNat (IntKind.wrap IntKind.i64 (IntKind.wrap IntKind.i64 (1032 + IntKind.wrap IntKind.i64 (20 * n18)) + 20)))) 0 ∧
 byteAt (ByteArray.extract x0 (Int.toNat (IntKind.wrap IntKind.i64 (1032 + IntKind.wrap IntKind.i64 (20 * n18)))) (Int.toNat (IntKind.wrap IntKind.i64 (IntKind.wrap IntKind.i64 (1032 + IntKind.wrap IntKind.i64 (20 * n18)) + 20)))) 0 < (↑257 : Int)) ∧
 ∃ n26 : Int, (World.cell? w19 (Addr.add (Addr.mk (Array.size (World.heap w)) 1 none) (Int.toNat (byteAt (ByteArray.extract x0 (Int.toNat (IntKind.wrap IntKind.i64 (1032 + IntKind.wrap IntKind.i64 (20 * n18)))) (Int.toNat (IntKind.wrap IntKind.i64 (IntKind.wrap IntKind.i64 (1032 + IntKind.wrap IntKind.i64 (20 * n18)) + 20)))) 0) * 1)) = some (Value.int IntKind.i64 n26) ∧
 (((decide (n18 < n26) = true →
 ∀ w27 : World,
 (Drew w19 w27 →
 R (Value.tuple (Array.mk [Value.pointer none, Value.int IntKind.i64 3])) w27))) ∧
 (decide (n18 < n26) = false →
 (((0 : Int) ≤ (0 : Int) ∧
 0 < (↑(ByteArray.size (ByteArray.extract x0 (Int.toNat (IntKind.wrap IntKind.i64 (1032 + IntKind.wrap IntKind.i64 (20 * n18)))) (Int.toNat (IntKind.wrap IntKind.i64 (IntKind.wrap IntKind.i64 (1032 + IntKind.wrap IntKind.i64 (20 * n18)) + 20))))) : Int)) ∧
 ((0 ≤ IntKind.wrap IntKind.i64 (IntKind.wrap IntKind.i64 (byteAt (ByteArray.extract x0 (Int.toNat (IntKind.wrap IntKind.i64 (1032 + IntKind.wrap IntKind.i64 (20 * n18)))) (Int.toNat (IntKind.wrap IntKind.i64 (IntKind.wrap IntKind.i64 (1032 + IntKind.wrap IntKind.i64 (20 * n18)) + 20)))) 0) + 1) ∧
 IntKind.wrap IntKind.i64 (IntKind.wrap IntKind.i64 (byteAt (ByteArray.extract x0 (Int.toNat (IntKind.wrap IntKind.i64 (1032 + IntKind.wrap IntKind.i64 (20 * n18)))) (Int.toNat (IntKind.wrap IntKind.i64 (IntKind.wrap IntKind.i64 (1032 + IntKind.wrap IntKind.i64 (20 * n18)) + 20)))) 0) + 1) < (↑257 : Int)) ∧
 ∃ n28 : Int, (World.cell? w19 (Addr.add (Addr.mk (Array.size (World.heap w)) 1 none) (Int.toNat (IntKind.wrap IntKind.i64 (IntKind.wrap IntKind.i64 (byteAt (ByteArray.extract x0 (Int.toNat (IntKind.wrap IntKind.i64 (1032 + IntKind.wrap IntKind.i64 (20 * n18)))) (Int.toNat (IntKind.wrap IntKind.i64 (IntKind.wrap IntKind.i64 (1032 + IntKind.wrap IntKind.i64 (20 * n18)) + 20)))) 0) + 1)) * 1)) = some (Value.int IntKind.i64 n28) ∧
 ∀ w29 : World,
 (Drew w19 w29 →
 (((decide (n18 ≥ n28) = true →
 R (Value.tuple (Array.mk [Value.pointer none, Value.int IntKind.i64 3])) w29)) ∧
 (decide (n18 ≥ n28) = false →
 I20 w29))))))))))))) ∧
 ∀ w30 : World,
 (I20 w30 →
 ((0 ≤ IntKind.wrap IntKind.i64 (IntKind.wrap IntKind.i64 (1032 + IntKind.wrap IntKind.i64 (24 * n15)) + IntKind.wrap IntKind.i64 (4 * n18)) ∧
 (IntKind.wrap IntKind.i64 (IntKind.wrap IntKind.i64 (1032 + IntKind.wrap IntKind.i64 (24 * n15)) + IntKind.wrap IntKind.i64 (4 * n18)) ≤ IntKind.wrap IntKind.i64 (IntKind.wrap IntKind.i64 (IntKind.wrap IntKind.i64 (1032 + IntKind.wrap IntKind.i64 (24 * n15)) + IntKind.wrap IntKind.i64 (4 * n18)) + 4) ∧
 IntKind.wrap IntKind.i64 (IntKind.wrap IntKind.i64 (IntKind.wrap IntKind.i64 (1032 + IntKind.wrap IntKind.i64 (24 * n15)) + IntKind.wrap IntKind.i64 (4 * n18)) + 4) ≤ (↑(ByteArray.size x0) : Int))) ∧
 Calls Tryz.prog (33 : Nat) (Array.mk [Value.string (ByteArray.extract x0 (Int.toNat (IntKind.wrap IntKind.i64 (IntKind.wrap IntKind.i64 (1032 + IntKind.wrap IntKind.i64 (24 * n15)) + IntKind.wrap IntKind.i64 (4 * n18)))) (Int.toNat (IntKind.wrap IntKind.i64 (IntKind.wrap IntKind.i64 (IntKind.wrap IntKind.i64 (1032 + IntKind.wrap IntKind.i64 (24 * n15)) + IntKind.wrap IntKind.i64 (4 * n18)) + 4))))]) (w30) (fun e31 w32 =>
 ∃ n33 : Int, (e31 = Ending.returned (Value.int IntKind.u64 n33) ∧
 ∃ I34 : Int → World → Prop, ((((decide (n33 ≥ 2147483648) = true →
 ((8 : Int) ≠ (0 : Int) ∧
 (((decide (IntKind.wrap IntKind.i64 (IntKind.wrap IntKind.u64 (n33 - 2147483648)) ≥ IntKind.wrap IntKind.i64 (Int.tdiv (↑(ByteArray.size (ByteArray.extract x0 (Int.toNat (IntKind.wrap IntKind.i64 (1032 + IntKind.wrap IntKind.i64 (28 * n15)))) (Int.toNat (IntKind.wrap IntKind.i64 ((↑(ByteArray.size x0) : Int) - 40))))) : Int) 8)) = true →
 R (Value.tuple (Array.mk [Value.pointer none, Value.int IntKind.i64 3])) w32)) ∧
 (decide (IntKind.wrap IntKind.i64 (IntKind.wrap IntKind.u64 (n33 - 2147483648)) ≥ IntKind.wrap IntKind.i64 (Int.tdiv (↑(ByteArray.size (ByteArray.extract x0 (Int.toNat (IntKind.wrap IntKind.i64 (1032 + IntKind.wrap IntKind.i64 (28 * n15)))) (Int.toNat (IntKind.wrap IntKind.i64 ((↑(ByteArray.size x0) : Int) - 40))))) : Int) 8)) = false →
 ((0 ≤ IntKind.wrap IntKind.i64 (8 * IntKind.wrap IntKind.i64 (IntKind.wrap IntKind.u64 (n33 - 2147483648))) ∧
 (IntKind.wrap IntKind.i64 (8 * IntKind.wrap IntKind.i64 (IntKind.wrap IntKind.u64 (n33 - 2147483648))) ≤ IntKind.wrap IntKind.i64 (IntKind.wrap IntKind.i64 (8 * IntKind.wrap IntKind.i64 (IntKind.wrap IntKind.u64 (n33 - 2147483648))) + 8) ∧
 IntKind.wrap IntKind.i64 (IntKind.wrap IntKind.i64 (8 * IntKind.wrap IntKind.i64 (IntKind.wrap IntKind.u64 (n33 - 2147483648))) + 8) ≤ (↑(ByteArray.size (ByteArray.extract x0 (Int.toNat (IntKind.wrap IntKind.i64 (1032 + IntKind.wrap IntKind.i64 (28 * n15)))) (Int.toNat (IntKind.wrap IntKind.i64 ((↑(ByteArray.size x0) : Int) - 40))))) : Int))) ∧
 Calls Tryz.prog (33 : Nat) (Array.mk [Value.string (ByteArray.extract (ByteArray.extract x0 (Int.toNat (IntKind.wrap IntKind.i64 (1032 + IntKind.wrap IntKind.i64 (28 * n15)))) (Int.toNat (IntKind.wrap IntKind.i64 ((↑(ByteArray.size x0) : Int) - 40)))) (Int.toNat (IntKind.wrap IntKind.i64 (8 * IntKind.wrap IntKind.i64 (IntKind.wrap IntKind.u64 (n33 - 2147483648))))) (Int.toNat (IntKind.wrap IntKind.i64 (IntKind.wrap IntKind.i64 (8 * IntKind.wrap IntKind.i64 (IntKind.wrap IntKind.u64 (n33 - 2147483648))) + 8))))]) (w32) (fun e35 w36 =>
 ∃ n37 : Int, (e35 = Ending.returned (Value.int IntKind.u64 n37) ∧
 I34 n37 w36)))))))) ∧
 (decide (n33 ≥ 2147483648) = false →
 I34 n33 w32)) ∧
 ∀ n38 : Int,
 ∀ w39 : World,
 (I34 n38 w39 →
 (((decide (n38 > 1099511627776) = true →
 R (Value.tuple (Array.mk [Value.pointer none, Value.int IntKind.i64 2])) w39)) ∧
 (decide (n38 > 1099511627776) = false →
 ∀ w40 : World,
 (Drew w39 w40 →
 ∃ I41 : World → Prop, (I41 w40 ∧
 ∃ l42 : Sl, ((∀ w43 : World,
 (I41 w43 →
 World.cell? w43 (Addr.mk (Array.size (World.heap w)) 0 none) = some (Value.slice l42.1 l42.2 l42.3))) ∧
 ((0 ≤ IntKind.wrap IntKind.i64 (IntKind.wrap IntKind.i64 (1032 + IntKind.wrap IntKind.i64 (20 * n15)) + IntKind.wrap IntKind.i64 (4 * n18)) ∧
 (IntKind.wrap IntKind.i64 (IntKind.wrap IntKind.i64 (1032 + IntKind.wrap IntKind.i64 (20 * n15)) + IntKind.wrap IntKind.i64 (4 * n18)) ≤ IntKind.wrap IntKind.i64 (IntKind.wrap IntKind.i64 (IntKind.wrap IntKind.i64 (1032 + IntKind.wrap IntKind.i64 (20 * n15)) + IntKind.wrap IntKind.i64 (4 * n18)) + 4) ∧
 IntKind.wrap IntKind.i64 (IntKind.wrap IntKind.i64 (IntKind.wrap IntKind.i64 (1032 + IntKind.wrap IntKind.i64 (20 * n15)) + IntKind.wrap IntKind.i64 (4 * n18)) + 4) ≤ (↑(ByteArray.size x0) : Int))) ∧
 Calls Tryz.prog (9 : Nat) (Array.mk [Value.string (ByteArray.extract x0 (Int.toNat (IntKind.wrap IntKind.i64 (1032 + IntKind.wrap IntKind.i64 (20 * n18)))) (Int.toNat (IntKind.wrap IntKind.i64 (IntKind.wrap IntKind.i64 (1032 + IntKind.wrap IntKind.i64 (20 * n18)) + 20))))]) (w40) (fun e44 w45 =>
 ∃ s46 : ByteArray, (e44 = Ending.returned (Value.string s46) ∧
 (I41 w45 ∧
 Calls Tryz.prog (33 : Nat) (Array.mk [Value.string (ByteArray.extract x0 (Int.toNat (IntKind.wrap IntKind.i64 (IntKind.wrap IntKind.i64 (1032 + IntKind.wrap IntKind.i64 (20 * n15)) + IntKind.wrap IntKind.i64 (4 * n18)))) (Int.toNat (IntKind.wrap IntKind.i64 (IntKind.wrap IntKind.i64 (IntKind.wrap IntKind.i64 (1032 + IntKind.wrap IntKind.i64 (20 * n15)) + IntKind.wrap IntKind.i64 (4 * n18)) + 4))))]) (w45) (fun e47 w48 =>
 ∃ n49 : Int, (e47 = Ending.returned (Value.int IntKind.u64 n49) ∧
 (I41 w48 ∧
 ∀ w50 : World,
 (w50 = World.alloc w48 (Obj.cells (Array.mk [Value.string s46, Value.int IntKind.i64 (IntKind.wrap IntKind.i64 n38), Value.int IntKind.u32 (IntKind.wrap IntKind.u32 n49)]) 40) →
 (I41 w50 ∧
 ∃ w51 : World, ∃ l52 : Sl, (Sem.run Tryz.prog (Builtin.append_ (Array.mk [30, 30]) 30 (Array.mk [Value.slice l42.1 l42.2 l42.3, Value.slice (some (Addr.mk (Array.size (World.heap w48)) 0 none)) 1 1])) w50 = Result.ok (Value.slice l52.1 l52.2 l52.3) w51 ∧
 (I41 w51 ∧
 (Wr w51 (Addr.mk (Array.size (World.heap w)) 0 none) ∧
 ∀ w53 : World,
 (w53 = World.setCell w51 (Addr.mk (Array.size (World.heap w)) 0 none) (Value.slice l52.1 l52.2 l52.3) →
 (I16 (IntKind.wrap IntKind.i64 (n18 + 1)) w53 ∧
 I17 (IntKind.wrap IntKind.i64 (n18 + 1)) w53 < I17 n18 w19))))))))))))))))))))))))))))) ∧
 (decide (n18 < n15) = false →
 ∀ w54 : World,
 (Drew w19 w54 →
 ∃ I55 : World → Prop, (I55 w54 ∧
 ((0 ≤ IntKind.wrap IntKind.i64 ((↑(ByteArray.size x0) : Int) - 20) ∧
 IntKind.wrap IntKind.i64 ((↑(ByteArray.size x0) : Int) - 20) ≤ (↑(ByteArray.size x0) : Int)) ∧
 ((0 ≤ IntKind.wrap IntKind.i64 ((↑(ByteArray.size x0) : Int) - 20) ∧
 IntKind.wrap IntKind.i64 ((↑(ByteArray.size x0) : Int) - 20) ≤ (↑(ByteArray.size x0) : Int)) ∧
 Calls Tryz.prog (24 : Nat) (Array.mk [Value.string (ByteArray.extract x0 0 (Int.toNat (IntKind.wrap IntKind.i64 ((↑(ByteArray.size x0) : Int) - 20))))]) (w54) (fun e56 w57 =>
 ∃ s58 : ByteArray, (e56 = Ending.returned (Value.string s58) ∧
 (I55 w57 ∧
 ((((!ByteArray.toList s58 == ByteArray.toList (ByteArray.extract x0 (Int.toNat (IntKind.wrap IntKind.i64 ((↑(ByteArray.size x0) : Int) - 20))) (ByteArray.size x0))) = true →
 R (Value.tuple (Array.mk [Value.pointer none, Value.int IntKind.i64 5])) w57)) ∧
 ((!ByteArray.toList s58 == ByteArray.toList (ByteArray.extract x0 (Int.toNat (IntKind.wrap IntKind.i64 ((↑(ByteArray.size x0) : Int) - 20))) (ByteArray.size x0))) = false →
 ((0 ≤ IntKind.wrap IntKind.i64 ((↑(ByteArray.size x0) : Int) - 40) ∧
 (IntKind.wrap IntKind.i64 ((↑(ByteArray.size x0) : Int) - 40) ≤ IntKind.wrap IntKind.i64 ((↑(ByteArray.size x0) : Int) - 20) ∧
 IntKind.wrap IntKind.i64 ((↑(ByteArray.size x0) : Int) - 20) ≤ (↑(ByteArray.size x0) : Int))) ∧
 Calls Tryz.prog (9 : Nat) (Array.mk [Value.string (ByteArray.extract x0 (Int.toNat (IntKind.wrap IntKind.i64 ((↑(ByteArray.size x0) : Int) - 40))) (Int.toNat (IntKind.wrap IntKind.i64 ((↑(ByteArray.size x0) : Int) - 20))))]) (w57) (fun e59 w60 =>
 ∃ s61 : ByteArray, (e59 = Ending.returned (Value.string s61) ∧
 (Wr w60 (Addr.mk (Array.size (World.heap w)) 258 none) ∧
 ∀ w62 : World,
 (w62 = World.setCell w60 (Addr.mk (Array.size (World.heap w)) 258 none) (Value.string s61) →
 R (Value.tuple (Array.mk [Value.pointer (some (Addr.mk (Array.size (World.heap w)) 0 none)), Value.int IntKind.i64 0])) w62))))))))))))))))))))))))))))))))))))))
theorem vc_packidx_Parse_ok {x0 : ByteArray} {w : World} {R : Value → World → Prop} {R' : Ending → World → Prop} (h : vc_packidx_Parse x0 w R) (hR : ∀ v w', R v w' → R' (.returned v) w') :
    Calls Tryz.prog 10 #[.string x0] w R' :=
  calls_of_body (vs := [(.string x0, false)]) (ty := ty) (ann := ⟨[(27, []), (33, [(10, .int .u64)])], [(7, [(20, .int .i64)]), (22, [(81, .int .i64)])], [(9, .held [(0, true), (1, true), (2, true), (3, true), (4, true), (5, true), (6, true), (7, true), (8, true), (9, true), (10, true), (13, true), (14, true), (11, false), (12, true), (15, true), (16, false)]), (10, .quiet), (25, .quiet), (35, .held [(0, true), (1, true), (2, true), (3, true), (4, true), (5, true), (7, true), (8, true), (9, true), (10, true), (11, true), (12, true), (13, true), (14, true), (15, true), (16, true), (17, true), (18, true), (19, true), (20, true), (21, true), (22, true), (23, true), (6, false), (24, false), (25, true), (26, true), (27, false), (28, false), (29, true), (30, true), (31, false)]), (37, .held [(0, true), (1, true), (2, true), (3, true), (4, true), (6, true), (7, true), (8, true), (9, true), (10, true), (5, false), (11, true)])], []⟩) (c := Tryz.f10.body.getD .skip) (by kernel_rfl) Tryz.func10 (by kernel_rfl) (by kernel_rfl) (Eq.mp (by kernel_rfl) h) hR
end Go.Proofs.YtaaimcbicpgjoaaGreatDoor

/- packidx.Parse: what bytes say as an index. Conditions: the text is shorter than a hundred million bytes. -/
set_option linter.unusedVariables false
namespace Go.Proofs.YtaaimcbicpgjoaaGreatDoor
open Go Vc HexM SumM ShaM Go.Proofs

def sha1D : List UInt8 → List UInt8 := digest block1 start1
theorem elP : ElK encP 3 Tryz.prog T_S_packidx_Row T_packidx_Row (.agg #[.string ⟨#[]⟩, .int .i64 0, .int .u32 0]) 32 :=
  ⟨by kernel_rfl, by kernel_rfl, rfl, by decide, by kernel_rfl, fun _ => rfl, fun x u hu => by
    simp only [encP, List.mem_cons, List.mem_nil_iff, or_false] at hu
    rcases hu with rfl | rfl | rfl <;> rfl⟩
/-- An index under way: its rows, its fan, its sum. -/
def IdxAt (w : World) (b : Nat) (l : Sl) (F : Nat → Nat) (s : ByteArray) : Prop := ∃ cs : Array Value, w.heap[b]? = some (.cells cs T_packidx_Idx (0, 0)) ∧ cs.size = 259 ∧ cs[0]? = some (.slice l.a l.len l.cap) ∧
  (∀ c, c < 257 → cs[1 + c]? = some (.int .i64 (F c : Nat))) ∧ cs[258]? = some (.string s)
theorem IdxAt.keep {w w1 : World} {b : Nat} {l : Sl} {F : Nat → Nat} {s : ByteArray} (h : IdxAt w b l F s) {X : Nat → Prop} (hf : Fr X w w1) (hx : ¬ X b) : IdxAt w1 b l F s := by
  obtain ⟨cs, h1, h2⟩ := h
  exact ⟨cs, hf.keep h1 hx, h2⟩
theorem IdxAt.rowsC {w : World} {b : Nat} {l : Sl} {F : Nat → Nat} {s : ByteArray} (h : IdxAt w b l F s) : w.cell? ⟨b, 0, none⟩ = some (.slice l.a l.len l.cap) := by
  obtain ⟨cs, h1, _, h3, _⟩ := h
  rw [cell_blk h1]; exact h3
theorem IdxAt.fanC {w : World} {b : Nat} {l : Sl} {F : Nat → Nat} {s : ByteArray} (h : IdxAt w b l F s) {c : Nat} (hc : c < 257) : w.cell? ⟨b, 1 + c * 1, none⟩ = some (.int .i64 (F c : Nat)) := by
  obtain ⟨cs, h1, _, _, h4, _⟩ := h
  rw [cell_blk h1, Nat.mul_one]; exact h4 c hc
theorem IdxAt.sumC {w : World} {b : Nat} {l : Sl} {F : Nat → Nat} {s : ByteArray} (h : IdxAt w b l F s) : w.cell? ⟨b, 258, none⟩ = some (.string s) := by
  obtain ⟨cs, h1, _, _, _, h5⟩ := h
  rw [cell_blk h1]; exact h5
theorem IdxAt.wr {w : World} {b : Nat} {l : Sl} {F : Nat → Nat} {s : ByteArray} (h : IdxAt w b l F s) {i : Nat} (hi : i < 259) : Wr w ⟨b, i, none⟩ := by
  obtain ⟨cs, h1, h2, _⟩ := h
  exact wr_blk h1 (by omega)
theorem IdxAt.setRows {w : World} {b : Nat} {l : Sl} {F : Nat → Nat} {s : ByteArray} (h : IdxAt w b l F s) (l' : Sl) : IdxAt (w.setCell ⟨b, 0, none⟩ (.slice l'.a l'.len l'.cap)) b l' F s := by
  obtain ⟨cs, h1, h2, h3, h4, h5⟩ := h
  refine ⟨_, set_blk h1 0 _, by simpa using h2, ?_, fun c hc => ?_, ?_⟩
  · rw [Array.getElem?_setIfInBounds, if_pos rfl, if_pos (by omega)]
  · rw [Array.getElem?_setIfInBounds, if_neg (by omega)]; exact h4 c hc
  · rw [Array.getElem?_setIfInBounds, if_neg (by omega)]; exact h5
theorem IdxAt.setSum {w : World} {b : Nat} {l : Sl} {F : Nat → Nat} {s : ByteArray} (h : IdxAt w b l F s) (s' : ByteArray) : IdxAt (w.setCell ⟨b, 258, none⟩ (.string s')) b l F s' := by
  obtain ⟨cs, h1, h2, h3, h4, h5⟩ := h
  refine ⟨_, set_blk h1 258 _, by simpa using h2, ?_, fun c hc => ?_, ?_⟩
  · rw [Array.getElem?_setIfInBounds, if_neg (by omega)]; exact h3
  · rw [Array.getElem?_setIfInBounds, if_neg (by omega)]; exact h4 c hc
  · rw [Array.getElem?_setIfInBounds, if_pos rfl, if_pos (by omega)]
theorem IdxAt.setFan {w : World} {b : Nat} {l : Sl} {F G : Nat → Nat} {s : ByteArray} (h : IdxAt w b l F s) {c v : Nat} (hc : c < 257) (hG : ∀ k, k < 257 → G k = if k = c then v else F k) : IdxAt (w.setCell ⟨b, 1 + c * 1, none⟩ (.int .i64 (v : Nat))) b l G s := by
  obtain ⟨cs, h1, h2, h3, h4, h5⟩ := h
  refine ⟨_, set_blk h1 _ _, by simpa using h2, ?_, fun k hk => ?_, ?_⟩
  · rw [Array.getElem?_setIfInBounds, if_neg (by omega)]; exact h3
  · rw [Array.getElem?_setIfInBounds, hG k hk]
    by_cases hkc : k = c
    · rw [if_pos (by omega), if_pos (by omega), if_pos hkc]
    · rw [if_neg (by omega), if_neg hkc]; exact h4 k hk
  · rw [Array.getElem?_setIfInBounds, if_neg (by omega)]; exact h5
theorem idx_new {w w1 : World} {cs : Array Value} (h : w1 = w.alloc (.cells cs T_packidx_Idx)) (hc : cs.toList = .slice none 0 0 :: (List.replicate 257 (.int .i64 0) ++ [.string ⟨#[]⟩])) : IdxAt w1 w.heap.size ⟨none, 0, 0⟩ (fun _ => 0) ⟨#[]⟩ := by
  refine ⟨cs, by rw [h]; exact alloc_new _ _, ?_, ?_, fun c hc' => ?_, ?_⟩
  · rw [← Array.length_toList, hc, List.length_cons, List.length_append, List.length_replicate]; rfl
  · rw [← Array.getElem?_toList, hc]; rfl
  · rw [← Array.getElem?_toList, hc, Nat.add_comm, List.getElem?_cons_succ, List.getElem?_append_left (by rw [List.length_replicate]; exact hc'), List.getElem?_replicate, if_pos hc']; rfl
  · rw [← Array.getElem?_toList, hc, List.getElem?_cons_succ, List.getElem?_append_right (by rw [List.length_replicate]; omega), List.length_replicate]; rfl
/-- An index that stands still. -/
structure IsIdx (w : World) (b : Nat) (rows : List PRow) (sum : ByteArray) : Prop where
  at_ : ∃ l F, IdxAt w b l F sum ∧ ReadsK encP 3 w l.a rows ∧ rows.length = l.len
theorem IsIdx.keep {w w1 : World} {b : Nat} {rows : List PRow} {sum : ByteArray} (h : IsIdx w b rows sum) (hf : Fr (fun _ => False) w w1) : IsIdx w1 b rows sum := by
  obtain ⟨l, F, h1, h2, h3⟩ := h.at_
  exact ⟨l, F, h1.keep hf (by simp), h2.keep hf (by simp), h3⟩
theorem sl_extract (s : ByteArray) (i n : Nat) : (s.extract i (i + n)).data.toList = PkM.sl s.data.toList i n := by
  rw [bs_extract, Nat.add_sub_cancel_left]; rfl
theorem hd0_byt (s : ByteArray) : byt s 0 = PkM.hd0 s.data.toList := by
  unfold byt PkM.hd0
  cases s.data.toList <;> rfl
def ParseR (L : List UInt8) (w : World) (v : Value) (w' : World) : Prop := Fr (fun _ => False) w w' ∧ match PkM.parseE sha1D L with
  | .error n => v = .tuple #[.pointer none, .int .i64 (n : Nat)]
  | .ok (rows, sum) => ∃ b, v = .tuple #[.pointer (some ⟨b, 0, none⟩), .int .i64 0] ∧ w.heap.size ≤ b ∧ IsIdx w' b (rows.map ofRaw) ⟨(hexL sum).toArray⟩
set_option maxHeartbeats 1000000 in
theorem parse_spec (s : ByteArray) (hs : s.size ≤ 100000000) (w : World) : Calls Tryz.prog F_packidx_Parse #[.string s] w fun e w' => ∃ v, e = .returned v ∧ ParseR s.data.toList w v w' := by
  refine vc_packidx_Parse_ok (R := ParseR s.data.toList w) ?_ (fun v w' h => ⟨v, rfl, h⟩)
  obtain ⟨L, hL⟩ : ∃ L, s.data.toList = L := ⟨_, rfl⟩
  have hsz : L.length = s.size := by rw [← hL]; simp
  have ex : ∀ i n, (s.extract i (i + n)).data.toList = PkM.sl L i n := fun i n => by rw [sl_extract, hL]
  rw [hL]
  have bad : ∀ {w' : World} {k : Nat}, Fr (fun _ => False) w w' → PkM.parseE sha1D L = .error k → ParseR L w (.tuple #[.pointer none, .int .i64 (k : Nat)]) w' := fun hf he => ⟨hf, by rw [he]⟩
  have hE := PkM.parseE.eq_1 sha1D L
  refine ⟨fun h => bad (k := 6) (.refl _ _) (by rw [hE, if_pos (by have := of_decide_eq_true h; omega)]), fun h => ⟨⟨by decide, by have := of_decide_eq_false h; omega⟩, ?_⟩⟩
  have h1072 : 1072 ≤ L.length := by have := of_decide_eq_false h; omega
  rw [if_neg (by omega)] at hE
  have h8 : (s.extract 0 8).data.toList = L.take 8 := by rw [bs_head, hL]
  have hmg : decide (s.extract 0 8 = ⟨#[255, 116, 79, 99, 0, 0, 0, 2]⟩) = decide (L.take 8 = PkM.magic) := decide_eq_decide.2 ⟨fun e => by rw [← h8, e]; rfl, fun e => bs_ext (by rw [h8, e]; rfl)⟩
  rw [show Int.toNat 8 = 8 from rfl, bs_eq, hmg]
  refine ⟨fun hm => bad (k := 3) (.refl _ _) (by rw [hE, if_pos (by simpa using hm)]), fun hm w1 h1 => ?_⟩
  rw [if_neg (by simpa using hm)] at hE
  have hf1 : Fr (fun _ => False) w w1 := by rw [h1]; exact .alloc _ _ _
  have hi1 := idx_new h1 (by kernel_rfl)
  have hs1 : w1.heap.size = w.heap.size + 1 := by rw [h1]; exact Array.size_push _
  clear h1
  obtain ⟨b, hb⟩ : ∃ b, w.heap.size = b := ⟨_, rfl⟩
  rw [hb] at hi1 hs1 ⊢
  have hset : ∀ {w' w2 : World}, Fr (fun _ => False) w w' → Fr (· = b) w' w2 → Fr (fun _ => False) w w2 := fun h h' => h.trans h' fun q hq e => by omega
  have hsz1 : ∀ {w' : World}, Fr (fun _ => False) w1 w' → b + 1 ≤ w'.heap.size := fun h => by have := h.size; omega
  refine ⟨fun i w' => ∃ k : Nat, i = k ∧ k ≤ 256 ∧ IdxAt w' b ⟨none, 0, 0⟩ (fun c => if c ≤ k then PkM.fanB L c else 0) ⟨#[]⟩ ∧ (∀ j, j + 1 < k → ¬ PkM.fan L (j + 1) < PkM.fan L j) ∧ Fr (fun _ => False) w w', fun i _ => 256 - i.toNat,
    ⟨0, rfl, Nat.zero_le _, ?_, fun j hj => by omega, hf1⟩, ?_⟩
  · obtain ⟨cs, c1, c2, c3, c4, c5⟩ := hi1
    refine ⟨cs, c1, c2, c3, fun c hc => ?_, c5⟩
    have h0 : (if c ≤ 0 then PkM.fanB L c else 0) = 0 := by
      split
      · have : c = 0 := by omega
        subst this; rfl
      · rfl
    rw [c4 c hc]
    show some (Value.int .i64 ((0 : Nat) : Int)) = some (.int .i64 ((if c ≤ 0 then PkM.fanB L c else 0 : Nat) : Int))
    rw [h0]
  clear hi1
  rintro i w5 ⟨k, rfl, hk, hi5, hmon, hf5⟩
  have e1 : IntKind.i64.wrap ((k : Int) + 1) = ((k + 1 : Nat) : Int) := by rw [wrap_i64 (by omega) (by omega)]; omega
  refine ⟨fun hlt w6 d6 => ?_, fun hge => ?_⟩
  · have hlt := of_decide_eq_true hlt
    have a1 : IntKind.i64.wrap (8 + IntKind.i64.wrap (4 * (k : Int))) = ((8 + 4 * k : Nat) : Int) := by rw [wrap_i64 (x := 4 * (k : Int)) (by omega) (by omega), wrap_i64 (by omega) (by omega)]; omega
    have a2 : IntKind.i64.wrap (12 + IntKind.i64.wrap (4 * (k : Int))) = ((8 + 4 * k + 4 : Nat) : Int) := by rw [wrap_i64 (x := 4 * (k : Int)) (by omega) (by omega), wrap_i64 (by omega) (by omega)]; omega
    rw [a1, a2, e1, Int.toNat_natCast, Int.toNat_natCast, Int.toNat_natCast, Int.toNat_natCast]
    refine ⟨fun _ => True, trivial, ⟨by omega, by omega, by omega⟩, (frombig_spec _ (by rw [ByteArray.size_extract]; omega) w6).mono ?_⟩
    rintro e w9 ⟨rfl, hw⟩
    replace hw := hw.symm
    subst hw
    rw [ex]
    have hv : num8 (PkM.sl L (8 + 4 * k) 4) = PkM.fan L k := rfl
    rw [hv]
    have hvl : PkM.fan L k < 4294967296 := num8_lt 4 _ (PkM.sl_len (by omega))
    have e2 : IntKind.i64.wrap ((PkM.fan L k : Nat) : Int) = ((PkM.fan L k : Nat) : Int) := wrap_i64 (by omega) (by omega)
    have hf6 : Fr (fun _ => False) w w6 := hf5.trans' (.drew _ d6)
    have hi6 := hi5.keep (.drew (fun _ => False) d6) (by simp)
    refine ⟨_, rfl, trivial, ⟨by omega, by omega⟩, ?_⟩
    rw [add_lit, add_lit, e2]
    refine ⟨hi6.wr (by omega), fun w11 h11 => ?_⟩
    have hfb : PkM.fanB L (k + 1) = PkM.fan L k := by unfold PkM.fanB; rw [if_neg (by omega)]; rfl
    have hi11 : IdxAt w11 b ⟨none, 0, 0⟩ (fun c => if c ≤ k + 1 then PkM.fanB L c else 0) ⟨#[]⟩ := by
      rw [h11]
      refine hi6.setFan (c := k + 1) (v := PkM.fan L k) (by omega) fun j hj => ?_
      by_cases hjk : j = k + 1
      · subst hjk; rw [if_pos (Nat.le_refl _), if_pos rfl, hfb]
      · rw [if_neg hjk]
        by_cases hjl : j ≤ k
        · rw [if_pos (by omega), if_pos hjl]
        · rw [if_neg (by omega), if_neg hjl]
    have hf11 : Fr (fun _ => False) w w11 := hset hf6 (by rw [h11]; exact Fr.set (· = b) _ _ rfl)
    clear h11
    have c1 := hi11.fanC (c := k + 1) (by omega)
    have c2 := hi11.fanC (c := k) (by omega)
    simp only [Nat.le_refl, if_true, Nat.le_succ, hfb] at c1 c2
    refine ⟨⟨by omega, by omega⟩, _, c1, ⟨by omega, by omega⟩, _, c2, fun w14 d14 => ?_⟩
    have hf14 := hf11.trans' (.drew _ d14)
    refine ⟨fun hlt2 => bad (k := 3) hf14 ?_, fun hge2 => ⟨⟨k + 1, rfl, by omega, hi11.keep (.drew (fun _ => False) d14) (by simp), fun j hj => ?_, hf14⟩, by dsimp only; omega⟩⟩
    · have hlt2 := of_decide_eq_true hlt2
      have hk0 : k ≠ 0 := fun e => by
        subst e
        have : PkM.fanB L 0 = 0 := rfl
        omega
      have hfk : PkM.fanB L k = PkM.fan L (k - 1) := by unfold PkM.fanB; rw [if_neg hk0]
      rw [hE, if_pos ⟨k - 1, by omega, by rw [show k - 1 + 1 = k by omega]; omega⟩]
    · by_cases hjk : j + 1 < k
      · exact hmon j hjk
      · have hge2 := of_decide_eq_false hge2
        have hk' : k = j + 1 := by omega
        subst hk'
        have hfk : PkM.fanB L (j + 1) = PkM.fan L j := by unfold PkM.fanB; rw [if_neg (by omega)]; rfl
        omega
  · have hge := of_decide_eq_false hge
    have hk' : k = 256 := by omega
    subst hk'
    clear e1
    have hnm : ¬ ∃ i, i < 255 ∧ PkM.fan L (i + 1) < PkM.fan L i := fun ⟨i, hi, h⟩ => hmon i (by omega) h
    rw [if_neg hnm] at hE
    clear hmon hnm
    have c3 := hi5.fanC (c := 256) (by omega)
    have hf256 : PkM.fanB L 256 = PkM.fan L 255 := rfl
    simp only [Nat.le_refl, if_true, hf256] at c3
    rw [show Int.toNat 256 = 256 from rfl, add_lit]
    refine ⟨⟨by decide, by decide⟩, _, c3, ?_⟩
    have hi5' : IdxAt w5 b ⟨none, 0, 0⟩ (PkM.fanB L) ⟨#[]⟩ := by
      obtain ⟨cs, k1, k2, k3, k4, k5⟩ := hi5
      refine ⟨cs, k1, k2, k3, fun c hc => ?_, k5⟩
      have := k4 c hc
      simp only [show c ≤ 256 by omega, if_true] at this
      exact this
    clear hi5 c3
    generalize hn : PkM.fan L 255 = n at hE ⊢
    refine ⟨fun h => bad (k := 2) hf5 (by rw [hE, if_pos (by have := of_decide_eq_true h; omega)]), fun h => ?_⟩
    have h1000 : n ≤ 1000 := by have := of_decide_eq_false h; omega
    rw [if_neg (by omega)] at hE
    have f1 : IntKind.i64.wrap (1032 + IntKind.i64.wrap (28 * (n : Int))) = ((1032 + 28 * n : Nat) : Int) := by rw [wrap_i64 (x := 28 * (n : Int)) (by omega) (by omega), wrap_i64 (by omega) (by omega)]; omega
    have f2 : IntKind.i64.wrap (((1032 + 28 * n : Nat) : Int) + 40) = ((1072 + 28 * n : Nat) : Int) := by rw [wrap_i64 (by omega) (by omega)]; omega
    have f3 : IntKind.i64.wrap ((s.size : Int) - 40) = ((s.size - 40 : Nat) : Int) := by rw [wrap_i64 (by omega) (by omega)]; omega
    have f4 : IntKind.i64.wrap ((s.size : Int) - 20) = ((s.size - 20 : Nat) : Int) := by rw [wrap_i64 (by omega) (by omega)]; omega
    rw [f1, f2, f3, f4, Int.toNat_natCast, Int.toNat_natCast, Int.toNat_natCast]
    refine ⟨fun h => bad (k := 6) hf5 (by rw [hE, if_pos (by have := of_decide_eq_true h; omega)]), fun h => ?_⟩
    have hLn : 1072 + 28 * n ≤ L.length := by have := of_decide_eq_false h; omega
    rw [if_neg (by omega)] at hE
    have hfs : (s.extract (1032 + 28 * n) (s.size - 40)).size = L.length - (1072 + 28 * n) := by rw [ByteArray.size_extract]; omega
    have hfl : (s.extract (1032 + 28 * n) (s.size - 40)).data.toList = PkM.farL L n := by
      rw [bs_extract, hL]
      unfold PkM.farL PkM.sl
      rw [hsz]
    have exf : ∀ i m, ((s.extract (1032 + 28 * n) (s.size - 40)).extract i (i + m)).data.toList = PkM.sl (PkM.farL L n) i m := fun i m => by rw [sl_extract, hfl]
    have hfll : (PkM.farL L n).length = L.length - (1072 + 28 * n) := by rw [← hfl, bs_len, hfs]
    rw [hfs]
    generalize s.extract (1032 + 28 * n) (s.size - 40) = far at exf hfs ⊢
    have hmod : Int.tmod ((L.length - (1072 + 28 * n) : Nat) : Int) 8 = (((L.length - (1072 + 28 * n)) % 8 : Nat) : Int) := by
      rw [Int.tmod_eq_emod_of_nonneg (Int.natCast_nonneg _)]; omega
    have hdiv : Int.tdiv ((L.length - (1072 + 28 * n) : Nat) : Int) 8 = (((L.length - (1072 + 28 * n)) / 8 : Nat) : Int) := by
      rw [Int.tdiv_eq_ediv_of_nonneg (Int.natCast_nonneg _)]; omega
    rw [hmod, hdiv]
    refine ⟨⟨by omega, by omega, by omega⟩, by decide, fun h => bad (k := 3) hf5 (by rw [hE, if_pos (by intro e; rw [e] at h; simp at h)]), fun h => ?_⟩
    have hm8 : (L.length - (1072 + 28 * n)) % 8 = 0 := by
      have : (((L.length - (1072 + 28 * n)) % 8 : Nat) : Int) = 0 := by simpa using h
      omega
    rw [if_neg (fun h => h hm8)] at hE
    have hwd : IntKind.i64.wrap ((((L.length - (1072 + 28 * n)) / 8 : Nat) : Int)) = (((L.length - (1072 + 28 * n)) / 8 : Nat) : Int) := wrap_i64 (by omega) (by omega)
    rw [hwd]
    refine ⟨fun i w' => ∃ (j : Nat) (l : Sl) (done : List PkM.Rw), i = j ∧ j ≤ n ∧ IdxAt w' b l (PkM.fanB L) ⟨#[]⟩ ∧ OwnK encP 3 w' (b + 1) T_packidx_Row l (done.map ofRaw) ∧ done.length = j ∧
        (PkM.rowsE L n 0 n = match PkM.rowsE L n j (n - j) with | .error e => .error e | .ok rs => .ok (done ++ rs)) ∧ Fr (fun _ => False) w w' ∧ b + 1 ≤ w'.heap.size, fun i _ => n - i.toNat,
      ⟨0, ⟨none, 0, 0⟩, [], rfl, Nat.zero_le _, hi5', .nil _ _ _, rfl, ?_, hf5, ?_⟩, ?_⟩
    · rw [Nat.sub_zero]
      cases PkM.rowsE L n 0 n <;> rfl
    · obtain ⟨cs, k1, _⟩ := hi5'
      exact lt_blk k1
    clear hi5'
    rintro i w19 ⟨j, l, done, rfl, hj, hi19, ho19, hdl, hrw, hf19, hb19⟩
    refine ⟨fun hlt => ?_, fun hge w54 d54 => ?_⟩
    · have hlt := of_decide_eq_true hlt
      have hjn : j < n := by omega
      have b1 : IntKind.i64.wrap (1032 + IntKind.i64.wrap (20 * (j : Int))) = ((1032 + 20 * j : Nat) : Int) := by rw [wrap_i64 (x := 20 * (j : Int)) (by omega) (by omega), wrap_i64 (by omega) (by omega)]; omega
      have b2 : IntKind.i64.wrap (((1032 + 20 * j : Nat) : Int) + 20) = ((1032 + 20 * j + 20 : Nat) : Int) := by rw [wrap_i64 (by omega) (by omega)]; omega
      have b3 : IntKind.i64.wrap (((1032 + 20 * j : Nat) : Int) - 20) = ((1032 + 20 * j - 20 : Nat) : Int) := by rw [wrap_i64 (by omega) (by omega)]; omega
      have b4 : IntKind.i64.wrap (IntKind.i64.wrap (1032 + IntKind.i64.wrap (24 * (n : Int))) + IntKind.i64.wrap (4 * (j : Int))) = ((1032 + 24 * n + 4 * j : Nat) : Int) := by
        rw [wrap_i64 (x := 24 * (n : Int)) (by omega) (by omega), wrap_i64 (x := 4 * (j : Int)) (by omega) (by omega), wrap_i64 (x := 1032 + 24 * (n : Int)) (by omega) (by omega), wrap_i64 (by omega) (by omega)]; omega
      have b5 : IntKind.i64.wrap (((1032 + 24 * n + 4 * j : Nat) : Int) + 4) = ((1032 + 24 * n + 4 * j + 4 : Nat) : Int) := by rw [wrap_i64 (by omega) (by omega)]; omega
      have b6 : IntKind.i64.wrap (IntKind.i64.wrap (1032 + IntKind.i64.wrap (20 * (n : Int))) + IntKind.i64.wrap (4 * (j : Int))) = ((1032 + 20 * n + 4 * j : Nat) : Int) := by
        rw [wrap_i64 (x := 20 * (n : Int)) (by omega) (by omega), wrap_i64 (x := 4 * (j : Int)) (by omega) (by omega), wrap_i64 (x := 1032 + 20 * (n : Int)) (by omega) (by omega), wrap_i64 (by omega) (by omega)]; omega
      have b7 : IntKind.i64.wrap (((1032 + 20 * n + 4 * j : Nat) : Int) + 4) = ((1032 + 20 * n + 4 * j + 4 : Nat) : Int) := by rw [wrap_i64 (by omega) (by omega)]; omega
      have b8 : IntKind.i64.wrap ((j : Int) + 1) = ((j + 1 : Nat) : Int) := by rw [wrap_i64 (by omega) (by omega)]; omega
      rw [b6, b7, b4, b5, b1, b2, b3, b8]
      simp only [Int.toNat_natCast]
      have hraw : (s.extract (1032 + 20 * j) (1032 + 20 * j + 20)).data.toList = PkM.sl L (1032 + 20 * j) 20 := ex _ _
      have hraws : (s.extract (1032 + 20 * j) (1032 + 20 * j + 20)).size = 20 := by rw [ByteArray.size_extract]; omega
      have hh0 : byteAt (s.extract (1032 + 20 * j) (1032 + 20 * j + 20)) 0 = ((PkM.hd0 (PkM.sl L (1032 + 20 * j) 20) : Nat) : Int) := by
        rw [show (0 : Int) = ((0 : Nat) : Int) from rfl, byteAt_nat, hd0_byt, hraw]
      rw [hh0]
      have hc : PkM.hd0 (PkM.sl L (1032 + 20 * j) 20) < 256 := UInt8.toNat_lt _
      obtain ⟨R, hR⟩ : ∃ R, PkM.rowsE L n j (n - j) = R := ⟨_, rfl⟩
      have hR' := hR
      rw [show n - j = (n - j - 1) + 1 by omega, PkM.rowsE] at hR'
      have hst := PkM.stepE.eq_1 L n j
      have hprev : 0 < j → (s.extract (1032 + 20 * j - 20) (1032 + 20 * j)).data.toList = PkM.sl L (1032 + 20 * j - 20) 20 := fun h0 => by
        have := ex (1032 + 20 * j - 20) 20
        rwa [show 1032 + 20 * j - 20 + 20 = 1032 + 20 * j by omega] at this
      have stop : ∀ {w' : World} {e : Nat}, Fr (fun _ => False) w w' → PkM.stepE L n j = .error e → ParseR L w (.tuple #[.pointer none, .int .i64 (e : Nat)]) w' := fun hf he => bad hf (by
        rw [he] at hR'
        simp only at hR'
        rw [hE, hrw, hR, ← hR'])
      generalize hraw0 : PkM.sl L (1032 + 20 * j) 20 = raw at hraw hc hst hh0 ⊢
      generalize hcc : PkM.hd0 raw = c at hc hst ⊢
      have g1 : IntKind.i64.wrap (IntKind.i64.wrap (c : Int) + 1) = ((c + 1 : Nat) : Int) := by rw [wrap_i64 (x := (c : Int)) (by omega) (by omega), wrap_i64 (by omega) (by omega)]; omega
      rw [g1]
      simp only [Int.toNat_natCast, add_lit]
      have hfc := hi19.fanC (c := c) (by omega)
      have hfc1 := hi19.fanC (c := c + 1) (by omega)
      have tailC : ¬ (0 < j ∧ ¬ PkM.sl L (1032 + 20 * j - 20) 20 < raw) → ((0 : Int) ≤ 0 ∧ 0 < ((s.extract (1032 + 20 * j) (1032 + 20 * j + 20)).size : Int)) ∧ ((0 ≤ (c : Int) ∧ (c : Int) < ((257 : Nat) : Int)) ∧ ∃ n22 : Int, w19.cell? ⟨b, 1 + c * 1, none⟩ = some (.int .i64 n22) ∧
          ((decide ((j : Int) < n22) = true → ∀ w23, Drew w19 w23 → ParseR L w (.tuple #[.pointer none, .int .i64 3]) w23) ∧
           (decide ((j : Int) < n22) = false → ((0 : Int) ≤ 0 ∧ 0 < ((s.extract (1032 + 20 * j) (1032 + 20 * j + 20)).size : Int)) ∧ ((0 ≤ ((c + 1 : Nat) : Int) ∧ ((c + 1 : Nat) : Int) < ((257 : Nat) : Int)) ∧ ∃ n24 : Int, w19.cell? ⟨b, 1 + (c + 1) * 1, none⟩ = some (.int .i64 n24) ∧ ∀ w25, Drew w19 w25 →
            ((decide ((j : Int) ≥ n24) = true → ParseR L w (.tuple #[.pointer none, .int .i64 3]) w25) ∧
             (decide ((j : Int) ≥ n24) = false → Fr (fun _ => False) w19 w25 ∧ ¬ (0 < j ∧ ¬ PkM.sl L (1032 + 20 * j - 20) 20 < raw) ∧ ¬ j < PkM.fanB L c ∧ ¬ PkM.fanB L (c + 1) ≤ j)))))) := fun hno => by
        rw [if_neg hno] at hst
        refine ⟨⟨by decide, by omega⟩, ⟨by omega, by omega⟩, _, hfc, fun h w23 d23 => stop (hf19.trans' (.drew _ d23)) ?_, fun h => ⟨⟨by decide, by omega⟩, ⟨by omega, by omega⟩, _, hfc1, fun w25 d25 => ⟨fun h2 => stop (hf19.trans' (.drew _ d25)) ?_, fun h2 => ⟨.drew _ d25, hno, ?_, ?_⟩⟩⟩⟩
        · rw [hst, if_pos (by have := of_decide_eq_true h; omega)]
        · rw [hst, if_neg (by have := of_decide_eq_false h; omega), if_pos (by have := of_decide_eq_true h2; omega)]
        · have := of_decide_eq_false h; omega
        · have := of_decide_eq_false h2; omega
      refine ⟨⟨by omega, by omega, by omega⟩, fun w' => Fr (fun _ => False) w19 w' ∧ ¬ (0 < j ∧ ¬ PkM.sl L (1032 + 20 * j - 20) 20 < raw) ∧ ¬ j < PkM.fanB L c ∧ ¬ PkM.fanB L (c + 1) ≤ j, ⟨fun h0 => ⟨⟨by omega, by omega, by omega⟩, fun hl w21 d21 => stop (hf19.trans' (.drew _ d21)) ?_, fun hl => tailC ?_⟩, fun h0 => tailC ?_⟩, ?_⟩
      · have h0 : 0 < j := by have := of_decide_eq_true h0; omega
        rw [ByteArray.toList_eq, ByteArray.toList_eq, Proofs.bytesLess_eq, hprev h0, hraw] at hl
        have hl' : ¬ PkM.sl L (1032 + 20 * j - 20) 20 < raw := by simpa using hl
        rw [hst, if_pos ⟨h0, hl'⟩]
      · have h0 : 0 < j := by have := of_decide_eq_true h0; omega
        rw [ByteArray.toList_eq, ByteArray.toList_eq, Proofs.bytesLess_eq, hprev h0, hraw] at hl
        have hl' : PkM.sl L (1032 + 20 * j - 20) 20 < raw := by simpa using hl
        exact fun hh => hh.2 hl'
      · have h0 := of_decide_eq_false h0
        exact fun hh => by omega
      rintro w30 ⟨hf30, ok1, ok2, ok3⟩
      rw [if_neg ok1, if_neg ok2, if_neg ok3] at hst
      have hF30 := hf19.trans' hf30
      refine ⟨⟨by omega, by omega, by omega⟩, (frombig_spec _ (by rw [ByteArray.size_extract]; omega) w30).mono ?_⟩
      rintro e w32 ⟨rfl, hw⟩
      replace hw := hw.symm
      subst hw
      rw [ex]
      have hvl : num8 (PkM.sl L (1032 + 24 * n + 4 * j) 4) < 4294967296 := num8_lt 4 _ (PkM.sl_len (by omega))
      generalize num8 (PkM.sl L (1032 + 24 * n + 4 * j) 4) = v at hvl hst ⊢
      have hpl := PkM.placeE.eq_1 (PkM.farL L n) v
      rw [hfll] at hpl
      refine ⟨_, rfl, fun q w' => ∃ a : Nat, q = a ∧ a < 18446744073709551616 ∧ PkM.placeE (PkM.farL L n) v = .ok a ∧ Fr (fun _ => False) w19 w', ⟨fun h => ⟨by decide, ?_⟩, fun h => ⟨v, rfl, by omega, by rw [hpl, if_pos (by have := of_decide_eq_false h; omega)], hf30⟩⟩, ?_⟩
      · have h := of_decide_eq_true h
        have q1 : IntKind.i64.wrap (IntKind.u64.wrap ((v : Int) - 2147483648)) = ((v - 2147483648 : Nat) : Int) := by rw [wrap_u64 (by omega) (by omega), wrap_i64 (by omega) (by omega)]; omega
        rw [if_neg (by omega)] at hpl
        obtain ⟨u, hu⟩ : ∃ u, v - 2147483648 = u := ⟨_, rfl⟩
        rw [hu] at q1 hpl
        rw [q1]
        clear q1
        refine ⟨fun h2 => stop hF30 (by rw [hst, hpl, if_pos (by have := of_decide_eq_true h2; omega)]), fun h2 => ?_⟩
        have h2 := of_decide_eq_false h2
        have hk2 : u < (L.length - (1072 + 28 * n)) / 8 := by omega
        rw [if_neg (by omega)] at hpl
        have q2 : IntKind.i64.wrap (8 * ((u : Nat) : Int)) = ((8 * u : Nat) : Int) := by rw [wrap_i64 (by omega) (by omega)]; omega
        have q3 : IntKind.i64.wrap (((8 * u : Nat) : Int) + 8) = ((8 * u + 8 : Nat) : Int) := by rw [wrap_i64 (by omega) (by omega)]; omega
        rw [q2, q3, Int.toNat_natCast, Int.toNat_natCast]
        refine ⟨⟨by omega, by omega, by omega⟩, (frombig_spec _ (by rw [ByteArray.size_extract]; omega) w30).mono ?_⟩
        rintro e w36 ⟨rfl, hw⟩
        replace hw := hw.symm
        subst hw
        rw [exf]
        have h64 := num8_lt 8 _ (PkM.sl_len (L := PkM.farL L n) (i := 8 * u) (n := 8) (by omega))
        rw [show (256 : Nat) ^ 8 = 18446744073709551616 by decide] at h64
        exact ⟨_, rfl, _, rfl, h64, hpl, hf30⟩
      rintro q w39 ⟨a, rfl, hal, hpla, hf39⟩
      rw [hpla] at hst
      simp only at hst
      have hF39 := hf19.trans' hf39
      refine ⟨fun h => stop hF39 (by rw [hst, if_pos (by have := of_decide_eq_true h; omega)]), fun h w40 d40 => ?_⟩
      have ha : a ≤ 1099511627776 := by have := of_decide_eq_false h; omega
      rw [if_neg (by omega)] at hst
      have hf40 := hf39.trans' (.drew _ d40)
      have hF40 := hf19.trans' hf40
      have hi40 := hi19.keep hf40 (by simp)
      have ho40 := ho19.keep hf40 (by simp)
      refine ⟨fun w' => IdxAt w' b l (PkM.fanB L) ⟨#[]⟩, hi40, l, fun w43 h43 => h43.rowsC, ⟨by omega, by omega, by omega⟩, (hex_spec (s.extract (1032 + 20 * j) (1032 + 20 * j + 20)) (by omega) w40).mono ?_⟩
      rintro e w45 ⟨rfl, hf45⟩
      rw [hraw]
      refine ⟨_, rfl, hi40.keep hf45 (by simp), (frombig_spec _ (by rw [ByteArray.size_extract]; omega) w45).mono ?_⟩
      rintro e w48 ⟨rfl, hw⟩
      replace hw := hw.symm
      subst hw
      rw [ex]
      have hcl : num8 (PkM.sl L (1032 + 20 * n + 4 * j) 4) < 4294967296 := num8_lt 4 _ (PkM.sl_len (by omega))
      generalize num8 (PkM.sl L (1032 + 20 * n + 4 * j) 4) = crc at hcl hst ⊢
      have hF45 := hF40.trans' hf45
      have hi45 := hi40.keep hf45 (by simp)
      have ho45 := ho40.keep hf45 (by simp)
      have hb45 : b + 1 ≤ w45.heap.size := by have := hf40.size; have := hf45.size; omega
      refine ⟨_, rfl, hi45, fun w50 h50 => ?_⟩
      have q4 : IntKind.i64.wrap (a : Int) = (a : Int) := wrap_i64 (by omega) (by omega)
      have q5 : IntKind.u32.wrap (crc : Int) = (crc : Int) := wrap_u32 (by omega) (by omega)
      rw [q4, q5] at h50
      have hdm : (done.map ofRaw).length = j := by rw [List.length_map]; exact hdl
      obtain ⟨w51, l52, hr51, ho51, hf51, _⟩ := append_oneK elP ho45 (x := ofRaw (raw, a, crc)) (by rw [hdm]; simp only [maxLen]; omega) (by rw [hdm]; omega) hb45 h50
      have hnb : ∀ x, l.a = some x → x.block ≠ b := fun x hx => by have := (ho45.blk hx).1; omega
      have hi51 : IdxAt w51 b l (PkM.fanB L) ⟨#[]⟩ := hi45.keep hf51 fun ⟨y, hy, e⟩ => hnb y hy e.symm
      have hi50 : IdxAt w50 b l (PkM.fanB L) ⟨#[]⟩ := by rw [h50]; exact hi45.keep (.alloc (fun _ => False) _ _) (by simp)
      have hF51 : Fr (fun _ => False) w w51 := hF45.trans hf51 fun q hq ⟨y, hy, e⟩ => by have := (ho45.blk hy).1; omega
      refine ⟨hi50, w51, l52, hr51, hi51, hi51.wr (by omega), fun w53 h53 => ?_⟩
      have hi53 : IdxAt w53 b l52 (PkM.fanB L) ⟨#[]⟩ := by rw [h53]; exact hi51.setRows l52
      have hf53 : Fr (· = b) w51 w53 := by rw [h53]; exact Fr.set _ _ _ rfl
      have ho53 := ho51.keep hf53 fun x hx e => by have := (ho51.blk hx).1; omega
      refine ⟨⟨j + 1, l52, done ++ [(raw, a, crc)], rfl, by omega, hi53, by rw [List.map_append]; exact ho53, by rw [List.length_append, hdl]; rfl, ?_, hset hF51 hf53, ?_⟩, by omega⟩
      · rw [hst] at hR'
        simp only at hR'
        rw [hrw, hR, ← hR', show n - (j + 1) = n - j - 1 by omega]
        cases PkM.rowsE L n (j + 1) (n - j - 1) with
        | error e => rfl
        | ok rs => simp
      · have h1 := hf51.size
        have h2 := hf53.size
        omega
    · have hge := of_decide_eq_false hge
      have hjn : j = n := by omega
      subst hjn
      have hrw' : PkM.rowsE L j 0 j = .ok done := by
        rw [hrw, Nat.sub_self, PkM.rowsE]
        simp
      rw [hrw'] at hE
      simp only at hE
      have hf54 := hf19.trans' (.drew _ d54)
      have hi54 := hi19.keep (.drew (fun _ => False) d54) (by simp)
      have ho54 := ho19.drew d54
      refine ⟨fun _ => True, trivial, ⟨by omega, by omega⟩, ⟨by omega, by omega⟩, (sum1_spec _ (by rw [ByteArray.size_extract]; omega) w54).mono ?_⟩
      rintro e w57 ⟨rfl, hf57⟩
      have hF57 := hf54.trans' hf57
      have hhead : (s.extract 0 (s.size - 20)).data.toList = L.take (L.length - 20) := by rw [bs_head, hL, hsz]
      have htail : (s.extract (s.size - 20) s.size).data.toList = L.drop (L.length - 20) := by rw [bs_tail, hL, hsz]
      rw [hhead]
      have hdec : decide ((⟨(digest block1 start1 (L.take (L.length - 20))).toArray⟩ : ByteArray) = s.extract (s.size - 20) s.size) = decide (sha1D (L.take (L.length - 20)) = L.drop (L.length - 20)) := decide_eq_decide.2 ⟨fun e => by
          have := congrArg (fun x : ByteArray => x.data.toList) e
          dsimp only at this
          rw [← htail]; exact this, fun e => bs_ext (by rw [bs_mk, htail]; exact e)⟩
      refine ⟨_, rfl, trivial, ?_⟩
      rw [bs_eq, hdec]
      refine ⟨fun h => bad (k := 5) hF57 (by rw [hE, if_pos (by simpa using h)]), fun h => ⟨⟨by omega, by omega, by omega⟩, (hex_spec _ (by rw [ByteArray.size_extract]; omega) w57).mono ?_⟩⟩
      rw [if_neg (by simpa using h)] at hE
      rintro e w60 ⟨rfl, hf60⟩
      have hsum : (s.extract (s.size - 40) (s.size - 20)).data.toList = PkM.sl L (L.length - 40) 20 := by
        have h1 := ex (s.size - 40) 20
        have h2 : s.size - 40 + 20 = s.size - 20 := by omega
        rw [h2] at h1
        rw [h1, hsz]
      rw [hsum]
      have hi60 := (hi54.keep hf57 (by simp)).keep hf60 (by simp)
      have ho60 := (ho54.keep hf57 (by simp)).keep hf60 (by simp)
      refine ⟨_, rfl, hi60.wr (by omega), fun w62 h62 => ?_⟩
      have hf62 : Fr (· = b) w60 w62 := by rw [h62]; exact Fr.set _ _ _ rfl
      refine ⟨hset (hF57.trans' hf60) hf62, ?_⟩
      rw [hE]
      refine ⟨b, rfl, by omega, ⟨l, _, by rw [h62]; exact hi60.setSum _, (ho60.keep hf62 fun x hx e => by have := (ho60.blk hx).1; omega).reads fun _ => rfl, ho60.1⟩⟩
end Go.Proofs.YtaaimcbicpgjoaaGreatDoor

/- Structures of the kit over its shelf, at this seat (written by a program of the author's, laysn.py). No condition. -/
namespace Go.Proofs.YtaaimcbicpgjoaaGreatDoor
open Go Go.Shelf Go.Proofs
def lays106_ren : Go.Shelf.Ren := ⟨fun | 106 => 31 | 213 => 56 | 265 => 86 | n => n, fun | 3 => 3 | 9 => 9 | n => n, fun  | n => n⟩
theorem lays106 : Go.Proofs.Lays.n106 Tryz.prog lays106_ren := {
  mixed := by kernel_rfl,
  f106 := Tryz.func31.trans (congrArg some (by kernel_rfl)),
  f213 := Tryz.func56.trans (congrArg some (by kernel_rfl)),
  f265 := Tryz.func86.trans (congrArg some (by kernel_rfl)),
  t3 := Tryz.underlying3,
  a3 := Tryz.isAgg3,
  z3 := Tryz.sizeOf3,
  v3 := Tryz.zeroValue3,
  t9 := Tryz.underlying9,
  a9 := Tryz.isAgg9,
  z9 := Tryz.sizeOf9,
  v9 := Tryz.zeroValue9 }
end Go.Proofs.YtaaimcbicpgjoaaGreatDoor

/- strings.Compare. No condition. -/
set_option linter.unusedVariables false
namespace Go.Proofs.YtaaimcbicpgjoaaGreatDoor
open Go Vc Go.Proofs Go.Lib

theorem compare_spec (a b : ByteArray) (w : World) : Calls Tryz.prog F_strings_Compare #[.string a, .string b] w fun e w' => e = .returned (.int .i64 (Lib.compareBytes a.data.toList b.data.toList)) ∧ w' = w := Any.strings_Compare lays106 a b w
end Go.Proofs.YtaaimcbicpgjoaaGreatDoor

/- A slice of the call's own, as the kit's contract of slices.SortFunc wants it, and as it leaves it. No condition. -/
set_option linter.unusedVariables false
set_option linter.unusedSectionVars false
namespace Vc
open Go Go.Proofs Go.Sort Go.Lib
variable {α : Type} [Inhabited α] {enc : α → List Value} {k : Nat} {w : World} {base : Nat} {e : TypeId} {l : Sl} {xs : List α} {g : Nat}
theorem own_row (h : OwnK enc k w base e l xs) (ha : l.a = some ⟨g, 0, none⟩) : ∃ cur, w.heap[g]? = some (.cells cur e (0, 0)) ∧ base ≤ g ∧ l.len ≤ l.cap ∧ l.cap ≤ maxLen ∧ cur.size = l.cap * k ∧ cur.toList.take (l.len * k) = xs.flatMap enc := by
  rcases h.2.2 with ⟨hv, _⟩ | ⟨g', cap, cur, hv, hb, hg, hl, hm, hs, ht⟩
  · simp only [Value.slice.injEq] at hv; rw [ha] at hv; cases hv.1
  · simp only [Value.slice.injEq] at hv
    obtain ⟨h1, _, h3⟩ := hv
    rw [ha] at h1
    cases h1
    subst h3
    exact ⟨cur, hg, hb, hl, hm, hs, ht⟩
theorem flatK_get (hk : ∀ x, (enc x).length = k) (h0 : 0 < k) {j : Nat} (hj : j < xs.length * k) : (xs.flatMap enc)[j]? = some ((flatK enc k xs.toArray)[j]!) := by
  have hl := flat_len hk xs
  obtain ⟨v, hv⟩ : ∃ v, (xs.flatMap enc)[j]? = some v := ⟨_, List.getElem?_eq_getElem (by omega)⟩
  obtain ⟨x, h1, h2⟩ := flat_get' hk h0 xs j v hv
  rw [hv, get_flatK enc k xs.toArray j (by simpa using hj)]
  have e1 : xs.toArray[j / k]! = x := by simp [h1]
  rw [e1]
  simp [h2]
theorem own_holds (hk : ∀ x, (enc x).length = k) (h0 : 0 < k) (h : OwnK enc k w base e l xs) (ha : l.a = some ⟨g, 0, none⟩) : HoldsK enc k w g 0 xs.toArray := fun j hj => by
  rw [size_flatK, List.size_toArray] at hj
  obtain ⟨cur, hg, _⟩ := own_row h ha
  have hr := h.reads hk
  rw [ha] at hr
  have := hr.flat hk h0 j _ (flatK_get hk h0 hj)
  rw [add_lit] at this
  exact ⟨this, by simp [World.frozen?, hg]⟩
theorem sort_fr (m : Nat) (ys : List α) (os : Array Obj) : Fr (· = g) w (sortWorldK enc k w g 0 m ys.toArray os) := by
  refine ⟨rfl, rfl, rfl, ?_, fun q hq hne => ?_⟩
  · simp [sortWorldK, grow, putRowK, putRow, mapBlock, Sort.ahead]
  · unfold sortWorldK
    rw [heap_grow_old _ _ (by simpa [putRowK, putRow, mapBlock, Sort.ahead] using hq)]
    simp only [putRowK, putRow, mapBlock, Sort.ahead, Array.getElem?_modify]
    rw [if_neg (fun e => hne e.symm)]
theorem own_sorted (hk : ∀ x, (enc x).length = k) (h0 : 0 < k) (h : OwnK enc k w base e l xs) (ha : l.a = some ⟨g, 0, none⟩) (m : Nat) (ys : List α) (hl : ys.length = xs.length) (os : Array Obj) : OwnK enc k (sortWorldK enc k w g 0 m ys.toArray os) base e l ys := by
  obtain ⟨cur, hg, hb, hc, hm, hs, ht⟩ := own_row h ha
  have hlen := h.1
  have hfl := flat_len hk ys
  have hkk : l.len * k ≤ l.cap * k := Nat.mul_le_mul_right _ hc
  have hgt := lt_blk hg
  refine ⟨by omega, by rw [hfl, hl, hlen], .inr ⟨g, l.cap, putCells id 0 (flatK enc k ys.toArray) cur, by rw [ha], hb, ?_, hc, hm, by simp [putCells, hs], ?_⟩⟩
  · unfold sortWorldK
    rw [heap_grow_old _ _ (by simpa [putRowK, putRow, mapBlock, Sort.ahead] using hgt)]
    simp only [putRowK, putRow, mapBlock, Sort.ahead, Array.getElem?_modify, if_true, hg]
    rfl
  · apply List.ext_getElem?
    intro j
    by_cases hj : j < l.len * k
    · rw [List.getElem?_take, if_pos hj, flatK_get hk h0 (by rw [hl, hlen]; exact hj)]
      simp only [putCells, Array.getElem?_toList, Array.getElem?_mapIdx]
      rw [Array.getElem?_eq_getElem (by omega)]
      simp only [Option.map_some, Nat.zero_le, true_and, Nat.zero_add, size_flatK, List.size_toArray, Nat.sub_zero, id]
      rw [if_pos (by rw [hl, hlen]; exact hj)]
    · rw [List.getElem?_eq_none (by rw [List.length_take]; omega), List.getElem?_eq_none (by rw [hfl, hl, hlen]; omega)]
end Vc

/- The kit's structure over slices.SortFunc at structs, at this seat (written by a program of the author's, laysort.py, with the kit's lay-plain). No condition. -/
namespace Go.Proofs.YtaaimcbicpgjoaaGreatDoor
open Go Go.Shelf Go.Proofs
def sortLays_ren : Go.Shelf.Ren := ⟨fun | 6 => 29 | 15 => 55 | 14 => 54 | 28 => 84 | 29 => 85 | 20 => 76 | 21 => 77 | 22 => 78 | 23 => 79 | 24 => 80 | 25 => 81 | 26 => 82 | 27 => 83 | 46 => 98 | 47 => 99 | 48 => 100 | 49 => 101 | 50 => 102 | 57 => 114 | n => n, fun | 22 => 30 | 24 => 40 | 25 => 72 | 3 => 3 | 39 => 75 | 0 => 0 | 53 => 31 | 55 => 57 | 4 => 4 | 46 => 127 | 45 => 126 | 50 => 80 | 5 => 5 | 9 => 9 | 66 => 153 | 70 => 157 | 76 => 173 | 77 => 88 | n => n, fun | n => n⟩
theorem sortLays : Go.Proofs.SlLaysF0.n6 Tryz.prog sortLays_ren := {
  mixed := by kernel_rfl
  f6 := ⟨Tryz.f29.name, by decide, Tryz.func29.trans (congrArg some (by kernel_rfl))⟩
  f14 := ⟨Tryz.f54.name, by decide, Tryz.func54.trans (congrArg some (by kernel_rfl))⟩
  f15 := Tryz.func55.trans (congrArg some (by kernel_rfl))
  f20 := ⟨Tryz.f76.name, by decide, Tryz.func76.trans (congrArg some (by kernel_rfl))⟩
  f21 := ⟨Tryz.f77.name, by decide, Tryz.func77.trans (congrArg some (by kernel_rfl))⟩
  f22 := ⟨Tryz.f78.name, by decide, Tryz.func78.trans (congrArg some (by kernel_rfl))⟩
  f23 := ⟨Tryz.f79.name, by decide, Tryz.func79.trans (congrArg some (by kernel_rfl))⟩
  f24 := ⟨Tryz.f80.name, by decide, Tryz.func80.trans (congrArg some (by kernel_rfl))⟩
  f25 := ⟨Tryz.f81.name, by decide, Tryz.func81.trans (congrArg some (by kernel_rfl))⟩
  f26 := ⟨Tryz.f82.name, by decide, Tryz.func82.trans (congrArg some (by kernel_rfl))⟩
  f27 := ⟨Tryz.f83.name, by decide, Tryz.func83.trans (congrArg some (by kernel_rfl))⟩
  f28 := Tryz.func84.trans (congrArg some (by kernel_rfl))
  f29 := Tryz.func85.trans (congrArg some (by kernel_rfl))
  f46 := ⟨Tryz.f98.name, by decide, Tryz.func98.trans (congrArg some (by kernel_rfl))⟩
  f47 := Tryz.func99.trans (congrArg some (by kernel_rfl))
  f48 := Tryz.func100.trans (congrArg some (by kernel_rfl))
  f49 := ⟨Tryz.f101.name, by decide, Tryz.func101.trans (congrArg some (by kernel_rfl))⟩
  f50 := ⟨Tryz.f102.name, by decide, Tryz.func102.trans (congrArg some (by kernel_rfl))⟩
  f57 := ⟨Tryz.f114.name, by decide, Tryz.func114.trans (congrArg some (by kernel_rfl))⟩
  t0 := Tryz.underlying0
  a0 := Tryz.isAgg0
  z0 := Tryz.sizeOf0
  v0 := Tryz.zeroValue0
  t3 := Tryz.underlying3
  a3 := Tryz.isAgg3
  z3 := Tryz.sizeOf3
  v3 := Tryz.zeroValue3
  t4 := Tryz.underlying4
  a4 := Tryz.isAgg4
  z4 := Tryz.sizeOf4
  v4 := Tryz.zeroValue4
  t5 := Tryz.underlying5
  a5 := Tryz.isAgg5
  z5 := Tryz.sizeOf5
  v5 := Tryz.zeroValue5
  t9 := Tryz.underlying9
  a9 := Tryz.isAgg9
  z9 := Tryz.sizeOf9
  v9 := Tryz.zeroValue9
  t22 := Tryz.underlying30
  a22 := Tryz.isAgg30
  z22 := Tryz.sizeOf30
  v22 := Tryz.zeroValue30
  t25 := Tryz.underlying72
  a25 := Tryz.isAgg72
  z25 := Tryz.sizeOf72
  v25 := Tryz.zeroValue72
  t39 := Tryz.underlying75
  a39 := Tryz.isAgg75
  z39 := Tryz.sizeOf75
  v39 := Tryz.zeroValue75
  t45 := Tryz.underlying126
  a45 := Tryz.isAgg126
  z45 := Tryz.sizeOf126
  v45 := Tryz.zeroValue126
  t46 := Tryz.underlying127
  a46 := Tryz.isAgg127
  z46 := Tryz.sizeOf127
  v46 := Tryz.zeroValue127
  t50 := Tryz.underlying80
  a50 := Tryz.isAgg80
  z50 := Tryz.sizeOf80
  v50 := Tryz.zeroValue80
  t53 := Tryz.underlying31
  a53 := Tryz.isAgg31
  z53 := Tryz.sizeOf31
  v53 := Tryz.zeroValue31
  t55 := Tryz.underlying57
  a55 := Tryz.isAgg57
  z55 := Tryz.sizeOf57
  v55 := Tryz.zeroValue57
  t66 := Tryz.underlying153
  a66 := Tryz.isAgg153
  z66 := Tryz.sizeOf153
  v66 := Tryz.zeroValue153
  t70 := Tryz.underlying157
  a70 := Tryz.isAgg157
  z70 := Tryz.sizeOf157
  v70 := Tryz.zeroValue157
  t76 := Tryz.underlying173
  a76 := Tryz.isAgg173
  z76 := Tryz.sizeOf173
  v76 := Tryz.zeroValue173
  t77 := Tryz.underlying88
  a77 := Tryz.isAgg88
  z77 := Tryz.sizeOf88
  v77 := Tryz.zeroValue88 }
end Go.Proofs.YtaaimcbicpgjoaaGreatDoor

/- Formulas of 3 Go functions of this seat (written by a program of the author's, vcgen.py), and that each is enough for the call. No condition. -/
set_option linter.unusedVariables false
namespace Go.Proofs.YtaaimcbicpgjoaaGreatDoor
open Go Vc Go.Proofs
set_option maxRecDepth 100000
/-- packidx.Build -/
def vc_packidx_Build (x0a : Option Addr) (x0n : Nat) (x0c : Nat) (x1 : ByteArray) (x2 : Int) (w : World) (R : Value → World → Prop) : Prop :=
 (((decide ((↑x0n : Int) > 1000) = true →
 R (Value.tuple (Array.mk [Value.string (ByteArray.mk (Array.mk [])), Value.int IntKind.i64 2])) w)) ∧
 (decide ((↑x0n : Int) > 1000) = false →
 Calls Tryz.prog (28 : Nat) (Array.mk [Value.slice x0a x0n x0c]) (w) (fun e1 w2 =>
 ∃ l3 : Sl, (e1 = Ending.returned (Value.slice l3.1 l3.2 l3.3) ∧
 Calls Tryz.prog (29 : Nat) (Array.mk [Value.slice l3.1 l3.2 l3.3, Value.func (Fn.func 30) (Array.mk []) (Array.mk [])]) (w2) (fun e4 w5 =>
 (e4 = Ending.returned (Value.tuple (Array.mk [])) ∧
 ∃ I6 : Int → World → Prop, ∃ I7 : Int → World → Nat, (I6 0 w5 ∧
 ∀ n8 : Int,
 ∀ w9 : World,
 (I6 n8 w9 →
 (((decide (n8 < (↑l3.2 : Int)) = true →
 ((0 ≤ n8 ∧
 n8 < (↑l3.2 : Int)) ∧
 ∃ a10 : Addr, (l3.1 = some a10 ∧
 ∃ s11 : ByteArray, ∃ n12 : Int, ∃ n13 : Int, (Sem.run Tryz.prog (loadVar 40 (Addr.add a10 (Int.toNat n8 * 3))) w9 = Result.ok (Value.agg (Array.mk [Value.string s11, Value.int IntKind.i64 n12, Value.int IntKind.u32 n13])) w9 ∧
 ∀ w14 : World,
 (w14 = World.alloc w9 (Obj.cells (Array.mk [Value.string (ByteArray.mk (Array.mk [])), Value.int IntKind.i64 0, Value.int IntKind.u32 0]) 40) →
 ∃ w15 : World, (Sem.run Tryz.prog (storeVar 40 (Addr.mk (Array.size (World.heap w9)) 0 none) (Value.agg (Array.mk [Value.string s11, Value.int IntKind.i64 n12, Value.int IntKind.u32 n13]))) w14 = Result.ok PUnit.unit w15 ∧
 ∀ w16 : World,
 (Drew w15 w16 →
 ∃ I17 : World → Prop, (I17 w16 ∧
 ∃ s18 : ByteArray, ((∀ w19 : World,
 (I17 w19 →
 World.cell? w19 (Addr.mk (Array.size (World.heap w9)) 0 none) = some (Value.string s18))) ∧
 Calls Tryz.prog (32 : Nat) (Array.mk [Value.string s18]) (w16) (fun e20 w21 =>
 ∃ b22 : Bool, (e20 = Ending.returned (Value.bool b22) ∧
 (I17 w21 ∧
 ((((!b22) = true →
 R (Value.tuple (Array.mk [Value.string (ByteArray.mk (Array.mk [])), Value.int IntKind.i64 4])) w21)) ∧
 ((!b22) = false →
 (((decide (n8 > 0) = true →
 ((0 ≤ IntKind.wrap IntKind.i64 (n8 - 1) ∧
 IntKind.wrap IntKind.i64 (n8 - 1) < (↑l3.2 : Int)) ∧
 ∃ a23 : Addr, (l3.1 = some a23 ∧
 ∃ s24 : ByteArray, ((∀ w25 : World,
 (I17 w25 →
 World.cell? w25 (Addr.add a23 (Int.toNat (IntKind.wrap IntKind.i64 (n8 - 1)) * 3)) = some (Value.string s24))) ∧
 ∃ s26 : ByteArray, ((∀ w27 : World,
 (I17 w27 →
 World.cell? w27 (Addr.mk (Array.size (World.heap w9)) 0 none) = some (Value.string s26))) ∧
 ((((ByteArray.toList s24 == ByteArray.toList s26) = true →
 R (Value.tuple (Array.mk [Value.string (ByteArray.mk (Array.mk [])), Value.int IntKind.i64 4])) w21)) ∧
 ((ByteArray.toList s24 == ByteArray.toList s26) = false →
 ∃ n28 : Int, ((∀ w29 : World,
 (I17 w29 →
 World.cell? w29 (Addr.mk (Array.size (World.heap w9)) 1 none) = some (Value.int IntKind.i64 n28))) ∧
 (((decide (n28 < 0) = true →
 R (Value.tuple (Array.mk [Value.string (ByteArray.mk (Array.mk [])), Value.int IntKind.i64 4])) w21)) ∧
 (decide (n28 < 0) = false →
 ∃ n30 : Int, ((∀ w31 : World,
 (I17 w31 →
 World.cell? w31 (Addr.mk (Array.size (World.heap w9)) 1 none) = some (Value.int IntKind.i64 n30))) ∧
 (((decide (n30 > 1099511627776) = true →
 R (Value.tuple (Array.mk [Value.string (ByteArray.mk (Array.mk [])), Value.int IntKind.i64 4])) w21)) ∧
 (decide (n30 > 1099511627776) = false →
 (I6 (IntKind.wrap IntKind.i64 (n8 + 1)) w21 ∧
 I7 (IntKind.wrap IntKind.i64 (n8 + 1)) w21 < I7 n8 w9))))))))))))))) ∧
 (decide (n8 > 0) = false →
 ∃ n32 : Int, ((∀ w33 : World,
 (I17 w33 →
 World.cell? w33 (Addr.mk (Array.size (World.heap w9)) 1 none) = some (Value.int IntKind.i64 n32))) ∧
 (((decide (n32 < 0) = true →
 R (Value.tuple (Array.mk [Value.string (ByteArray.mk (Array.mk [])), Value.int IntKind.i64 4])) w21)) ∧
 (decide (n32 < 0) = false →
 ∃ n34 : Int, ((∀ w35 : World,
 (I17 w35 →
 World.cell? w35 (Addr.mk (Array.size (World.heap w9)) 1 none) = some (Value.int IntKind.i64 n34))) ∧
 (((decide (n34 > 1099511627776) = true →
 R (Value.tuple (Array.mk [Value.string (ByteArray.mk (Array.mk [])), Value.int IntKind.i64 4])) w21)) ∧
 (decide (n34 > 1099511627776) = false →
 (I6 (IntKind.wrap IntKind.i64 (n8 + 1)) w21 ∧
 I7 (IntKind.wrap IntKind.i64 (n8 + 1)) w21 < I7 n8 w9)))))))))))))))))))))))) ∧
 (decide (n8 < (↑l3.2 : Int)) = false →
 Calls Tryz.prog (22 : Nat) (Array.mk [Value.string x1]) (w9) (fun e36 w37 =>
 ∃ s38 : ByteArray, ∃ b39 : Bool, (e36 = Ending.returned (Value.tuple (Array.mk [Value.string s38, Value.bool b39])) ∧
 ((((!b39) = true →
 R (Value.tuple (Array.mk [Value.string (ByteArray.mk (Array.mk [])), Value.int IntKind.i64 4])) w37)) ∧
 ((!b39) = false →
 (((((↑(ByteArray.size s38) : Int) != 20) = true →
 R (Value.tuple (Array.mk [Value.string (ByteArray.mk (Array.mk [])), Value.int IntKind.i64 4])) w37)) ∧
 (((↑(ByteArray.size s38) : Int) != 20) = false →
 ∀ w40 : World,
 (w40 = World.alloc w37 (Obj.cells (Array.mk [Value.int IntKind.i64 0, Value.int IntKind.i64 0, Value.int IntKind.i64 0, Value.int IntKind.i64 0, Value.int IntKind.i64 0, Value.int IntKind.i64 0, Value.int IntKind.i64 0, Value.int IntKind.i64 0, Value.int IntKind.i64 0, Value.int IntKind.i64 0, Value.int IntKind.i64 0, Value.int IntKind.i64 0, Value.int IntKind.i64 0, Value.int IntKind.i64 0, Value.int IntKind.i64 0, Value.int IntKind.i64 0, Value.int IntKind.i64 0, Value.int IntKind.i64 0, Value.int IntKind.i64 0, Value.int IntKind.i64 0, Value.int IntKind.i64 0, Value.int IntKind.i64 0, Value.int IntKind.i64 0, Value.int IntKind.i64 0, Value.int IntKind.i64 0, Value.int IntKind.i64 0, Value.int IntKind.i64 0, Value.int IntKind.i64 0, Value.int IntKind.i64 0, Value.int IntKind.i64 0, Value.int IntKind.i64 0, Value.int IntKind.i64 0, Value.int IntKind.i64 0, Value.int IntKind.i64 0, Value.int IntKind.i64 0, Value.int IntKind.i64 0, Value.int IntKind.i64 0, Value.int IntKind.i64 0, Value.int IntKind.i64 0, Value.int IntKind.i64 0, Value.int IntKind.i64 0, Value.int IntKind.i64 0, Value.int IntKind.i64 0, Value.int IntKind.i64 0, Value.int IntKind.i64 0, Value.int IntKind.i64 0, Value.int IntKind.i64 0, Value.int IntKind.i64 0, Value.int IntKind.i64 0, Value.int IntKind.i64 0, Value.int IntKind.i64 0, Value.int IntKind.i64 0, Value.int IntKind.i64 0, Value.int IntKind.i64 0, Value.int IntKind.i64 0, Value.int IntKind.i64 0, Value.int IntKind.i64 0, Value.int IntKind.i64 0, Value.int IntKind.i64 0, Value.int IntKind.i64 0, Value.int IntKind.i64 0, Value.int IntKind.i64 0, Value.int IntKind.i64 0, Value.int IntKind.i64 0, Value.int IntKind.i64 0, Value.int IntKind.i64 0, Value.int IntKind.i64 0, Value.int IntKind.i64 0, Value.int IntKind.i64 0, Value.int IntKind.i64 0, Value.int IntKind.i64 0, Value.int IntKind.i64 0, Value.int IntKind.i64 0, Value.int IntKind.i64 0, Value.int IntKind.i64 0, Value.int IntKind.i64 0, Value.int IntKind.i64 0, Value.int IntKind.i64 0, Value.int IntKind.i64 0, Value.int IntKind.i64 0, Value.int IntKind.i64 0, Value.int IntKind.i64 0, Value.int IntKind.i64 0, Value.int IntKind.i64 0, Value.int IntKind.i64 0, Value.int IntKind.i64 0, Value.int IntKind.i64 0, Value.int IntKind.i64 0, Value.int IntKind.i64 0, Value.int IntKind.i64 0, Value.int IntKind.i64 0, Value.int IntKind.i64 0, Value.int IntKind.i64 0, Value.int IntKind.i64 0, Value.int IntKind.i64 0, Value.int IntKind.i64 0, Value.int IntKind.i64 0, Value.int IntKind.i64 0, Value.int IntKind.i64 0, Value.int IntKind.i64 0, Value.int IntKind.i64 0, Value.int IntKind.i64 0, Value.int IntKind.i64 0, Value.int IntKind.i64 0, Value.int IntKind.i64 0, Value.int IntKind.i64 0, Value.int IntKind.i64 0, Value.int IntKind.i64 0, Value.int IntKind.i64 0, Value.int IntKind.i64 0, Value.int IntKind.i64 0, Value.int IntKind.i64 0, Value.int IntKind.i64 0, Value.int IntKind.i64 0, Value.int IntKind.i64 0, Value.int IntKind.i64 0, Value.int IntKind.i64 0, Value.int IntKind.i64 0, Value.int IntKind.i64 0, Value.int IntKind.i64 0, Value.int IntKind.i64 0, Value.int IntKind.i64 0, Value.int IntKind.i64 0, Value.int IntKind.i64 0, Value.int IntKind.i64 0, Value.int IntKind.i64 0, Value.int IntKind.i64 0, Value.int IntKind.i64 0, Value.int IntKind.i64 0, Value.int IntKind.i64 0, Value.int IntKind.i64 0, Value.int IntKind.i64 0, Value.int IntKind.i64 0, Value.int IntKind.i64 0, Value.int IntKind.i64 0, Value.int IntKind.i64 0, Value.int IntKind.i64 0, Value.int IntKind.i64 0, Value.int IntKind.i64 0, Value.int IntKind.i64 0, Value.int IntKind.i64 0, Value.int IntKind.i64 0, Value.int IntKind.i64 0, Value.int IntKind.i64 0, Value.int IntKind.i64 0, Value.int IntKind.i64 0, Value.int IntKind.i64 0, Value.int IntKind.i64 0, Value.int IntKind.i64 0, Value.int IntKind.i64 0, Value.int IntKind.i64 0, Value.int IntKind.i64 0, Value.int IntKind.i64 0, Value.int IntKind.i64 0, Value.int IntKind.i64 0, Value.int IntKind.i64 0, Value.int IntKind.i64 0, Value.int IntKind.i64 0, Value.int IntKind.i64 0, Value.int IntKind.i64 0, Value.int IntKind.i64 0, Value.int IntKind.i64 0, Value.int IntKind.i64 0, Value.int IntKind.i64 0, Value.int IntKind.i64 0, Value.int IntKind.i64 0, Value.int IntKind.i64 0, Value.int IntKind.i64 0, Value.int IntKind.i64 0, Value.int IntKind.i64 0, Value.int IntKind.i64 0, Value.int IntKind.i64 0, Value.int IntKind.i64 0, Value.int IntKind.i64 0, Value.int IntKind.i64 0, Value.int IntKind.i64 0, Value.int IntKind.i64 0, Value.int IntKind.i64 0, Value.int IntKind.i64 0, Value.int IntKind.i64 0, Value.int IntKind.i64 0, Value.int IntKind.i64 0, Value.int IntKind.i64 0, Value.int IntKind.i64 0, Value.int IntKind.i64 0, Value.int IntKind.i64 0, Value.int IntKind.i64 0, Value.int IntKind.i64 0, Value.int IntKind.i64 0, Value.int IntKind.i64 0, Value.int IntKind.i64 0, Value.int IntKind.i64 0, Value.int IntKind.i64 0, Value.int IntKind.i64 0, Value.int IntKind.i64 0, Value.int IntKind.i64 0, Value.int IntKind.i64 0, Value.int IntKind.i64 0, Value.int IntKind.i64 0, Value.int IntKind.i64 0, Value.int IntKind.i64 0, Value.int IntKind.i64 0, Value.int IntKind.i64 0, Value.int IntKind.i64 0, Value.int IntKind.i64 0, Value.int IntKind.i64 0, Value.int IntKind.i64 0, Value.int IntKind.i64 0, Value.int IntKind.i64 0, Value.int IntKind.i64 0, Value.int IntKind.i64 0, Value.int IntKind.i64 0, Value.int IntKind.i64 0, Value.int IntKind.i64 0, Value.int IntKind.i64 0, Value.int IntKind.i64 0, Value.int IntKind.i64 0, Value.int IntKind.i64 0, Value.int IntKind.i64 0, Value.int IntKind.i64 0, Value.int IntKind.i64 0, Value.int IntKind.i64 0, Value.int IntKind.i64 0, Value.int IntKind.i64 0, Value.int IntKind.i64 0, Value.int IntKind.i64 0, Value.int IntKind.i64 0, Value.int IntKind.i64 0, Value.int IntKind.i64 0, Value.int IntKind.i64 0, Value.int IntKind.i64 0, Value.int IntKind.i64 0, Value.int IntKind.i64 0, Value.int IntKind.i64 0, Value.int IntKind.i64 0, Value.int IntKind.i64 0, Value.int IntKind.i64 0, Value.int IntKind.i64 0, Value.int IntKind.i64 0, Value.int IntKind.i64 0, Value.int IntKind.i64 0, Value.int IntKind.i64 0, Value.int IntKind.i64 0, Value.int IntKind.i64 0, Value.int IntKind.i64 0, Value.int IntKind.i64 0, Value.int IntKind.i64 0, Value.int IntKind.i64 0, Value.int IntKind.i64 0, Value.int IntKind.i64 0, Value.int IntKind.i64 0, Value.int IntKind.i64 0, Value.int IntKind.i64 0, Value.int IntKind.i64 0, Value.int IntKind.i64 0, Value.int IntKind.i64 0]) 74) →
 ∃ I41 : ByteArray → ByteArray → ByteArray → ByteArray → Int → World → Prop, ∃ I42 : ByteArray → ByteArray → ByteArray → ByteArray → Int → World → Nat, (I41 (ByteArray.mk (Array.mk [])) (ByteArray.mk (Array.mk [])) (ByteArray.mk (Array.mk [])) (ByteArray.mk (Array.mk [])) 0 w40 ∧
 ∀ s43 : ByteArray,
 ∀ s44 : ByteArray,
 ∀ s45 : ByteArray,
 ∀ s46 : ByteArray,
 ∀ n47 : Int,
 ∀ w48 : World,
 (I41 s43 s44 s45 s46 n47 w48 →
 (((decide (n47 < (↑l3.2 : Int)) = true →
 ((0 ≤ n47 ∧
 n47 < (↑l3.2 : Int)) ∧
 ∃ a49 : Addr, (l3.1 = some a49 ∧
 ∃ s50 : ByteArray, ∃ n51 : Int, ∃ n52 : Int, (Sem.run Tryz.prog (loadVar 40 (Addr.add a49 (Int.toNat n47 * 3))) w48 = Result.ok (Value.agg (Array.mk [Value.string s50, Value.int IntKind.i64 n51, Value.int IntKind.u32 n52])) w48 ∧
 ∀ w53 : World,
 (w53 = World.alloc w48 (Obj.cells (Array.mk [Value.string (ByteArray.mk (Array.mk [])), Value.int IntKind.i64 0, Value.int IntKind.u32 0]) 40) →
 ∃ w54 : World, (Sem.run Tryz.prog (storeVar 40 (Addr.mk (Array.size (World.heap w48)) 0 none) (Value.agg (Array.mk [Value.string s50, Value.int IntKind.i64 n51, Value.int IntKind.u32 n52]))) w53 = Result.ok PUnit.unit w54 ∧
 ∃ s55 : ByteArray, (World.cell? w54 (Addr.mk (Array.size (World.heap w48)) 0 none) = some (Value.string s55) ∧
 Calls Tryz.prog (22 : Nat) (Array.mk [Value.string s55]) (w54) (fun e56 w57 =>
 ∃ s58 : ByteArray, ∃ b59 : Bool, (e56 = Ending.returned (Value.tuple (Array.mk [Value.string s58, Value.bool b59])) ∧
 (((0 : Int) ≤ (0 : Int) ∧
 0 < (↑(ByteArray.size s58) : Int)) ∧
 ∃ I60 : Int → World → Prop, ∃ I61 : Int → World → Nat, (I60 (IntKind.wrap IntKind.i64 (byteAt s58 0)) w57 ∧
 ∀ n62 : Int,
 ∀ w63 : World,
 (I60 n62 w63 →
 (((decide (n62 < 256) = true →
 ((0 ≤ n62 ∧
 n62 < (↑256 : Int)) ∧
 ∃ n64 : Int, (World.cell? w63 (Addr.add (Addr.mk (Array.size (World.heap w37)) 0 none) (Int.toNat n62 * 1)) = some (Value.int IntKind.i64 n64) ∧
 ((0 ≤ n62 ∧
 n62 < (↑256 : Int)) ∧
 (Wr w63 (Addr.add (Addr.mk (Array.size (World.heap w37)) 0 none) (Int.toNat n62 * 1)) ∧
 ∀ w65 : World,
 (w65 = World.setCell w63 (Addr.add (Addr.mk (Array.size (World.heap w37)) 0 none) (Int.toNat n62 * 1)) (Value.int IntKind.i64 (IntKind.wrap IntKind.i64 (n64 + 1))) →
 (I60 (IntKind.wrap IntKind.i64 (n62 + 1)) w65 ∧
 I61 (IntKind.wrap IntKind.i64 (n62 + 1)) w65 < I61 n62 w63)))))))) ∧
 (decide (n62 < 256) = false →
 (ByteArray.size s43 + ByteArray.size s58 ≤ 9223372036854775807 ∧
 ∃ n66 : Int, (World.cell? w63 (Addr.mk (Array.size (World.heap w48)) 2 none) = some (Value.int IntKind.u32 n66) ∧
 Calls Tryz.prog (17 : Nat) (Array.mk [Value.int IntKind.u64 (IntKind.wrap IntKind.u64 n66), Value.int IntKind.i64 4]) (w63) (fun e67 w68 =>
 ∃ s69 : ByteArray, (e67 = Ending.returned (Value.string s69) ∧
 (ByteArray.size s44 + ByteArray.size s69 ≤ 9223372036854775807 ∧
 ∃ I70 : Bool → World → Prop, ((∃ n71 : Int, (World.cell? w68 (Addr.mk (Array.size (World.heap w48)) 1 none) = some (Value.int IntKind.i64 n71) ∧
 (((decide (n71 ≥ x2) = true →
 I70 true w68)) ∧
 (decide (n71 ≥ x2) = false →
 ∃ n72 : Int, (World.cell? w68 (Addr.mk (Array.size (World.heap w48)) 1 none) = some (Value.int IntKind.i64 n72) ∧
 I70 (decide (n72 ≥ 2147483648)) w68))))) ∧
 ∀ b73 : Bool,
 ∀ w74 : World,
 (I70 b73 w74 →
 (((b73 = true →
 ((8 : Int) ≠ (0 : Int) ∧
 Calls Tryz.prog (17 : Nat) (Array.mk [Value.int IntKind.u64 (IntKind.wrap IntKind.u64 (IntKind.wrap IntKind.i64 (2147483648 + IntKind.wrap IntKind.i64 (Int.tdiv (↑(ByteArray.size s46) : Int) 8)))), Value.int IntKind.i64 4]) (w74) (fun e75 w76 =>
 ∃ s77 : ByteArray, (e75 = Ending.returned (Value.string s77) ∧
 (ByteArray.size s45 + ByteArray.size s77 ≤ 9223372036854775807 ∧
 ∃ n78 : Int, (World.cell? w76 (Addr.mk (Array.size (World.heap w48)) 1 none) = some (Value.int IntKind.i64 n78) ∧
 Calls Tryz.prog (17 : Nat) (Array.mk [Value.int IntKind.u64 (IntKind.wrap IntKind.u64 n78), Value.int IntKind.i64 8]) (w76) (fun e79 w80 =>
 ∃ s81 : ByteArray, (e79 = Ending.returned (Value.string s81) ∧
 (ByteArray.size s46 + ByteArray.size s81 ≤ 9223372036854775807 ∧
 (I41 (s43 ++ s58) (s44 ++ s69) (s45 ++ s77) (s46 ++ s81) (IntKind.wrap IntKind.i64 (n47 + 1)) w80 ∧
 I42 (s43 ++ s58) (s44 ++ s69) (s45 ++ s77) (s46 ++ s81) (IntKind.wrap IntKind.i64 (n47 + 1)) w80 < I42 s43 s44 s45 s46 n47 w48))))))))))) ∧
 (b73 = false →
 ∃ n82 : Int, (World.cell? w74 (Addr.mk (Array.size (World.heap w48)) 1 none) = some (Value.int IntKind.i64 n82) ∧
 Calls Tryz.prog (17 : Nat) (Array.mk [Value.int IntKind.u64 (IntKind.wrap IntKind.u64 n82), Value.int IntKind.i64 4]) (w74) (fun e83 w84 =>
 ∃ s85 : ByteArray, (e83 = Ending.returned (Value.string s85) ∧
 (ByteArray.size s45 + ByteArray.size s85 ≤ 9223372036854775807 ∧
 (I41 (s43 ++ s58) (s44 ++ s69) (s45 ++ s85) s46 (IntKind.wrap IntKind.i64 (n47 + 1)) w84 ∧
 I42 (s43 ++ s58) (s44 ++ s69) (s45 ++ s85) s46 (IntKind.wrap IntKind.i64 (n47 + 1)) w84 < I42 s43 s44 s45 s46 n47 w48))))))))))))))))))))))))))))) ∧
 (decide (n47 < (↑l3.2 : Int)) = false →
 ∃ v86 : Value, (Sem.run Tryz.prog (loadVar 74 (Addr.mk (Array.size (World.heap w37)) 0 none)) w48 = Result.ok v86 w48 ∧
 ∃ I87 : ByteArray → Int → World → Prop, ∃ I88 : ByteArray → Int → World → Nat, (I87 (ByteArray.mk (Array.mk [255, 116, 79, 99, 0, 0, 0, 2])) 0 w48 ∧
 ∀ s89 : ByteArray,
 ∀ n90 : Int,
 ∀ w91 : World,
 (I87 s89 n90 w91 →
 (((decide (n90 < 256) = true →
 ∃ w92 : World, ∃ n93 : Int, (Sem.run Tryz.prog (Instr.index 74 v86 (Value.int IntKind.i64 n90)) w91 = Result.ok (Value.int IntKind.i64 n93) w92 ∧
 Calls Tryz.prog (17 : Nat) (Array.mk [Value.int IntKind.u64 (IntKind.wrap IntKind.u64 n93), Value.int IntKind.i64 4]) (w92) (fun e94 w95 =>
 ∃ s96 : ByteArray, (e94 = Ending.returned (Value.string s96) ∧
 (ByteArray.size s89 + ByteArray.size s96 ≤ 9223372036854775807 ∧
 (I87 (s89 ++ s96) (IntKind.wrap IntKind.i64 (n90 + 1)) w95 ∧
 I88 (s89 ++ s96) (IntKind.wrap IntKind.i64 (n90 + 1)) w95 < I88 s89 n90 w91))))))) ∧
 (decide (n90 < 256) = false →
 (ByteArray.size s43 + ByteArray.size s44 ≤ 9223372036854775807 ∧
 (ByteArray.size (s43 ++ s44) + ByteArray.size s45 ≤ 9223372036854775807 ∧
 (ByteArray.size (s43 ++ s44 ++ s45) + ByteArray.size s46 ≤ 9223372036854775807 ∧
 (ByteArray.size (s43 ++ s44 ++ s45 ++ s46) + ByteArray.size s38 ≤ 9223372036854775807 ∧
 (ByteArray.size s89 + ByteArray.size (s43 ++ s44 ++ s45 ++ s46 ++ s38) ≤ 9223372036854775807 ∧
 Calls Tryz.prog (24 : Nat) (Array.mk [Value.string (s89 ++ (s43 ++ s44 ++ s45 ++ s46 ++ s38))]) (w91) (fun e97 w98 =>
 ∃ s99 : ByteArray, (e97 = Ending.returned (Value.string s99) ∧
 (ByteArray.size (s89 ++ (s43 ++ s44 ++ s45 ++ s46 ++ s38)) + ByteArray.size s99 ≤ 9223372036854775807 ∧
 R (Value.tuple (Array.mk [Value.string (s89 ++ (s43 ++ s44 ++ s45 ++ s46 ++ s38) ++ s99), Value.int IntKind.i64 0])) w98))))))))))))))))))))))))))))))))))
theorem vc_packidx_Build_ok {x0a : Option Addr} {x0n : Nat} {x0c : Nat} {x1 : ByteArray} {x2 : Int} {w : World} {R : Value → World → Prop} {R' : Ending → World → Prop} (h : vc_packidx_Build x0a x0n x0c x1 x2 w R) (hR : ∀ v w', R v w' → R' (.returned v) w') :
    Calls Tryz.prog 8 #[.slice x0a x0n x0c, .string x1, .int .i64 x2] w R' :=
  calls_of_body (vs := [(.slice x0a x0n x0c, false), (.string x1, false), (.int .i64 x2, false)]) (ty := ty) (ann := ⟨[(27, [(123, .bool)])], [(6, [(35, .int .i64)]), (17, [(14, .str), (15, .str), (16, .str), (17, .str), (84, .int .i64)]), (21, [(22, .int .i64)]), (33, [(23, .str), (146, .int .i64)])], [(8, .held [(0, true), (1, true), (2, false), (3, true), (4, true), (5, true), (6, true), (7, true), (8, true), (9, true), (10, true), (11, true), (12, true), (13, true), (14, true), (15, true), (16, true), (17, true), (18, true), (19, true), (20, true), (21, true), (22, true), (23, true), (24, true), (25, true), (26, true), (27, true), (28, true)])], []⟩) (c := Tryz.f8.body.getD .skip) (by kernel_rfl) Tryz.func8 (by kernel_rfl) (by kernel_rfl) (Eq.mp (by kernel_rfl) h) hR
/-- packidx.Build$1 -/
def vc_packidx_Build_1 (x0_0 : ByteArray) (x0_1 : Int) (x0_2 : Int) (x1_0 : ByteArray) (x1_1 : Int) (x1_2 : Int) (w : World) (R : Value → World → Prop) : Prop :=
 ∀ w1 : World,
 (w1 = World.alloc w (Obj.cells (Array.mk [Value.string x0_0, Value.int IntKind.i64 x0_1, Value.int IntKind.u32 x0_2]) 40) →
 ∀ w2 : World,
 (w2 = World.alloc w1 (Obj.cells (Array.mk [Value.string x1_0, Value.int IntKind.i64 x1_1, Value.int IntKind.u32 x1_2]) 40) →
 ∃ s3 : ByteArray, (World.cell? w2 (Addr.mk (Array.size (World.heap w)) 0 none) = some (Value.string s3) ∧
 ∃ s4 : ByteArray, (World.cell? w2 (Addr.mk (Array.size (World.heap w1)) 0 none) = some (Value.string s4) ∧
 Calls Tryz.prog (31 : Nat) (Array.mk [Value.string s3, Value.string s4]) (w2) (fun e5 w6 =>
 ∃ n7 : Int, (e5 = Ending.returned (Value.int IntKind.i64 n7) ∧
 R (Value.int IntKind.i64 n7) w6))))))
theorem vc_packidx_Build_1_ok {x0_0 : ByteArray} {x0_1 : Int} {x0_2 : Int} {x1_0 : ByteArray} {x1_1 : Int} {x1_2 : Int} {w : World} {R : Value → World → Prop} {R' : Ending → World → Prop} (h : vc_packidx_Build_1 x0_0 x0_1 x0_2 x1_0 x1_1 x1_2 w R) (hR : ∀ v w', R v w' → R' (.returned v) w') :
    Calls Tryz.prog 30 #[.agg #[.string x0_0, .int .i64 x0_1, .int .u32 x0_2], .agg #[.string x1_0, .int .i64 x1_1, .int .u32 x1_2]] w R' :=
  calls_of_body (vs := [(.agg #[.string x0_0, .int .i64 x0_1, .int .u32 x0_2], false), (.agg #[.string x1_0, .int .i64 x1_1, .int .u32 x1_2], false)]) (ty := ty) (ann := ⟨[], [], [], []⟩) (c := Tryz.f30.body.getD .skip) (by kernel_rfl) Tryz.func30 (by kernel_rfl) (by kernel_rfl) (Eq.mp (by kernel_rfl) h) hR
/-- slices.Clone[[]packidx.Row,packidx.Row] -/
def vc_slices_Clone (x0a : Option Addr) (x0n : Nat) (x0c : Nat) (w : World) (R : Value → World → Prop) : Prop :=
 (((Option.isNone x0a = true →
 R (Value.slice none 0 0) w)) ∧
 (Option.isNone x0a = false →
 ∀ w1 : World,
 (w1 = World.alloc w (Obj.cells (Array.mk []) 40) →
 ∃ w2 : World, ∃ l3 : Sl, (Sem.run Tryz.prog (Builtin.append_ (Array.mk [30, 30]) 30 (Array.mk [Value.slice (some (Addr.mk (Array.size (World.heap w)) 0 none)) 0 0, Value.slice x0a x0n x0c])) w1 = Result.ok (Value.slice l3.1 l3.2 l3.3) w2 ∧
 R (Value.slice l3.1 l3.2 l3.3) w2))))
theorem vc_slices_Clone_ok {x0a : Option Addr} {x0n : Nat} {x0c : Nat} {w : World} {R : Value → World → Prop} {R' : Ending → World → Prop} (h : vc_slices_Clone x0a x0n x0c w R) (hR : ∀ v w', R v w' → R' (.returned v) w') :
    Calls Tryz.prog 28 #[.slice x0a x0n x0c] w R' :=
  calls_of_body (vs := [(.slice x0a x0n x0c, false)]) (ty := ty) (ann := ⟨[], [], [], []⟩) (c := Tryz.f28.body.getD .skip) (by kernel_rfl) Tryz.func28 (by kernel_rfl) (by kernel_rfl) (Eq.mp (by kernel_rfl) h) hR
end Go.Proofs.YtaaimcbicpgjoaaGreatDoor

/- packidx.Build: what rows have as bytes. Conditions: the names are no longer than memory. -/
set_option linter.unusedVariables false
namespace PkM
open SumM
theorem nearV_snoc (far : Int) : ∀ (k : Nat) (l : List Rw) (r : Rw), nearV far k (l ++ [r]) = nearV far k l ++ [if isFar far r = true then 2147483648 + k + (l.filter (isFar far)).length else r.2.1]
  | k, [], r => by
    show (if isFar far r = true then (2147483648 + k) :: nearV far (k + 1) [] else r.2.1 :: nearV far k []) = [] ++ [if isFar far r = true then 2147483648 + k + (([] : List Rw).filter (isFar far)).length else r.2.1]
    by_cases h : isFar far r = true
    · rw [if_pos h, if_pos h]; rfl
    · rw [if_neg h, if_neg h]; rfl
  | k, x :: l, r => by
    rw [List.cons_append, nearV, nearV]
    by_cases hx : isFar far x = true
    · rw [if_pos hx, if_pos hx, nearV_snoc far (k + 1) l r, List.filter_cons_of_pos hx, List.length_cons, show 2147483648 + (k + 1) + (l.filter (isFar far)).length = 2147483648 + k + ((l.filter (isFar far)).length + 1) by omega]; rfl
    · rw [if_neg hx, if_neg hx, nearV_snoc far k l r, List.filter_cons_of_neg hx]; rfl
theorem cnt_snoc (l : List Rw) (r : Rw) (c : Nat) : cnt (l ++ [r]) c = if hd0 r.1 ≤ c then cnt l c + 1 else cnt l c := by
  unfold cnt
  rw [List.filter_append, List.length_append]
  by_cases h : hd0 r.1 ≤ c
  · rw [if_pos h, List.filter_cons_of_pos (by simpa using h)]; rfl
  · rw [if_neg h, List.filter_cons_of_neg (by simpa using h)]; rfl
end PkM
namespace Go.Proofs.YtaaimcbicpgjoaaGreatDoor
open Go Vc HexM SumM ShaM Go.Proofs Go.Sort

theorem bs_cat (A B : List UInt8) : (⟨A.toArray⟩ : ByteArray) ++ ⟨B.toArray⟩ = ⟨(A ++ B).toArray⟩ := bs_ext (by rw [bs_app, bs_mk, bs_mk, bs_mk])
def cmpP (x y : PRow) : Int := Lib.compareBytes x.1.data.toList y.1.data.toList
theorem ltP (x y : PRow) : ltOf cmpP x y = decide (x.1.data.toList < y.1.data.toList) := decide_eq_decide.2 (cmp_lt _ _)
theorem swoP : SWO (ltOf cmpP) where
  irrefl x := by rw [ltP, decide_eq_false_iff_not]; exact List.lt_irrefl _
  trans x y z h1 h2 := by
    rw [ltP, decide_eq_true_eq] at *
    exact List.lt_trans h1 h2
  ntrans x y z h1 h2 := by
    rw [ltP, decide_eq_false_iff_not] at *
    intro h
    rcases lt_tri x.1.data.toList y.1.data.toList with h3 | h3 | h3
    · exact h1 h3
    · rw [h3] at h; exact h2 h
    · exact h2 (List.lt_trans h3 h)
theorem byId_spec (x y : PRow) (w : World) : Calls Tryz.prog F_packidx_Build_1 #[.agg (encP x).toArray, .agg (encP y).toArray] w fun e w' => e = .returned (.int .i64 (cmpP x y)) ∧ ∃ q os', w' = grow (w.drewN q) os' := by
  refine vc_packidx_Build_1_ok (R := fun v w' => v = .int .i64 (cmpP x y) ∧ ∃ q os', w' = grow (w.drewN q) os') ?_ (fun v w' h => ⟨by rw [h.1], h.2⟩)
  intro w1 h1 w2 h2
  have hb1 : w1.heap[w.heap.size]? = some (.cells (encP x).toArray T_packidx_Row (0, 0)) := by rw [h1]; exact alloc_new _ _
  have hb2 : w2.heap[w1.heap.size]? = some (.cells (encP y).toArray T_packidx_Row (0, 0)) := by rw [h2]; exact alloc_new _ _
  have hb1' : w2.heap[w.heap.size]? = some (.cells (encP x).toArray T_packidx_Row (0, 0)) := by rw [h2]; exact (Fr.alloc (fun _ => False) _ _).keep hb1 (by simp)
  refine ⟨x.1, by rw [cell_blk hb1']; rfl, y.1, by rw [cell_blk hb2]; rfl, (compare_spec _ _ w2).mono ?_⟩
  rintro e w6 ⟨rfl, rfl⟩
  refine ⟨_, rfl, rfl, 0, #[.cells (encP x).toArray T_packidx_Row (0, 0), .cells (encP y).toArray T_packidx_Row (0, 0)], ?_⟩
  rw [h2, h1, alloc_eq_grow, alloc_eq_grow, grow_grow]
  rfl
instance : Inhabited PRow := ⟨⟨#[]⟩, 0, 0⟩
/-- 'slices.SortFunc' of rows by their names. -/
theorem sortP_spec {w : World} {base : Nat} {e : TypeId} {l : Sl} {xs : List PRow} (h : OwnK encP 3 w base e l xs) (hsz : xs.length ≤ 1000000) :
    Calls Tryz.prog 29 #[.slice l.a l.len l.cap, .func (.func F_packidx_Build_1) #[] #[]] w fun r w' =>
      r = .returned (.tuple #[]) ∧ ∃ ys : List PRow, ys.Perm xs ∧ NearP ys ∧ OwnK encP 3 w' base e l ys ∧ Fr (At l) w w' := by
  have hlen := h.1
  cases ha : l.a with
  | none =>
    have hl0 : l.len = 0 ∧ l.cap = 0 := by
      rcases h.2.2 with ⟨hv, _⟩ | ⟨g, cap, cur, hv, _⟩
      · simp only [Value.slice.injEq] at hv; exact ⟨hv.2.1, hv.2.2⟩
      · simp only [Value.slice.injEq] at hv; rw [ha] at hv; cases hv.1
    have hx : xs = [] := List.length_eq_zero_iff.1 (by omega)
    subst hx
    rw [hl0.1, hl0.2]
    refine (AnyF.slices_SortFunc_none sortLays none 0 _ w).mono ?_
    rintro r w' ⟨rfl, rfl⟩
    exact ⟨rfl, [], List.Perm.refl _, List.Pairwise.nil, h, .refl _ _⟩
  | some ad =>
    obtain ⟨g, rfl⟩ : ∃ g, ad = ⟨g, 0, none⟩ := by
      rcases h.2.2 with ⟨hv, _⟩ | ⟨g, cap, cur, hv, _⟩
      · simp only [Value.slice.injEq] at hv; rw [ha] at hv; cases hv.1
      · simp only [Value.slice.injEq] at hv; rw [ha] at hv; exact ⟨g, Option.some.inj hv.1⟩
    obtain ⟨cur, hg, _⟩ := own_row h ha
    have hc := AnyQ.slices_SortFunc sortLays 3 Tryz.isAgg40 Tryz.sizeOf40 encP (fun _ => rfl) (fun x v hv => by
      simp only [encP, List.mem_cons, List.mem_nil_iff, or_false] at hv
      rcases hv with rfl | rfl | rfl <;> rfl) cmpP swoP F_packidx_Build_1 #[] g 0 l.cap xs.toArray w (enters_of (P := Tryz.prog) Tryz.func30 (by kernel_rfl) rfl)
      (fun m os dk _ x y => byId_spec x y _) (own_holds (fun _ => rfl) (by decide) h ha) (lt_blk hg) (by rw [List.size_toArray]; omega)
    have hl : l.len = xs.length := h.1.symm
    rw [hl]
    rw [List.size_toArray] at hc
    refine hc.mono ?_
    rintro r w' ⟨rfl, d', n, os, ⟨p1, _, p3⟩, p4, rfl⟩
    have p1 : d'.size = xs.length := by simpa using p1
    refine ⟨rfl, d'.toList, ?_, ?_, ?_, ?_⟩
    · have e1 : (d'.extract 0 xs.length).toList = d'.toList := by rw [← p1]; simp
      have e2 : (xs.toArray.extract 0 xs.length).toList = xs := by simp
      rw [e1, e2] at p3
      exact p3
    · unfold NearP
      rw [List.pairwise_iff_getElem]
      intro i j hi hj hij
      have := p4 i j (Nat.zero_le _) hij (by rw [Array.length_toList] at hj; omega)
      rw [Array.length_toList] at hi hj
      rw [getElem!_pos d' i hi, getElem!_pos d' j hj, ltP, decide_eq_false_iff_not] at this
      simpa using this
    · have := own_sorted (enc := encP) (k := 3) (fun _ => rfl) (by decide) h ha n d'.toList (by rw [Array.length_toList, p1]) os
      simpa using this
    · have := sort_fr (enc := encP) (k := 3) (w := w) (g := g) n d'.toList os
      exact (by simpa using this : Fr (· = g) w (sortWorldK encP 3 w g 0 n d' os)).mono fun q _ e => ⟨_, ha, e⟩
theorem cloneP_spec {w : World} {a : Option Addr} {n c : Nat} {xs : List PRow} (hr : ReadsK encP 3 w a xs) (hn : xs.length = n) (hl : n ≤ 1000000) : Calls Tryz.prog F_slices_Clone #[.slice a n c] w fun e w' =>
    ∃ l, e = .returned (.slice l.a l.len l.cap) ∧ OwnK encP 3 w' w.heap.size T_packidx_Row l xs ∧ Fr (fun _ => False) w w' := by
  refine vc_slices_Clone_ok (R := fun v w' => ∃ l : Sl, v = .slice l.a l.len l.cap ∧ OwnK encP 3 w' w.heap.size T_packidx_Row l xs ∧ Fr (fun _ => False) w w') ?_ (fun v w' ⟨l, h⟩ => ⟨l, by rw [h.1], h.2⟩)
  refine ⟨fun ha => ?_, fun ha w1 h1 => ?_⟩
  · have ha : a = none := by simpa using ha
    have hx : xs = [] := by
      cases xs with
      | nil => rfl
      | cons x r =>
        obtain ⟨ad, h, _⟩ := hr 0 x rfl
        rw [ha] at h; cases h
    subst hx
    exact ⟨⟨none, 0, 0⟩, rfl, .nil _ _ _, .refl _ _⟩
  · have hf1 : Fr (fun _ => False) w w1 := by rw [h1]; exact .alloc _ _ _
    have ho1 : OwnK encP 3 w1 w.heap.size T_packidx_Row ⟨some ⟨w.heap.size, 0, none⟩, 0, 0⟩ [] := by rw [h1]; exact .empty w _
    obtain ⟨w2, l3, hr2, ho2, hf2⟩ := append_allK elP ho1 c (hr.keep hf1 (by simp)) (by simp [maxLen]; omega) (by simp; omega) hf1.size hn
    exact ⟨w2, l3, hr2, l3, rfl, ho2, hf1.trans hf2 fun q hq ⟨y, hy, e⟩ => by cases hy; simp only at e; omega⟩
theorem boxP_run (w : World) (x : PRow) : (storeVar T_packidx_Row ⟨w.heap.size, 0, none⟩ (.agg #[.string x.1, .int .i64 x.2.1, .int .u32 x.2.2])).run Tryz.prog (w.alloc (.cells #[.string ⟨#[]⟩, .int .i64 0, .int .u32 0] T_packidx_Row)) = .ok () (w.alloc (.cells (encP x).toArray T_packidx_Row)) :=
  run_storeVar_new w T_packidx_Row _ _ (by kernel_rfl) rfl (by simp [Value.oneCell'])
theorem boxP_cell (w : World) (x : PRow) {w' : World} {X : Nat → Prop} (hf : Fr X (w.alloc (.cells (encP x).toArray T_packidx_Row)) w') (hx : ¬ X w.heap.size) {j : Nat} {v : Value} (hv : (encP x)[j]? = some v) : w'.cell? ⟨w.heap.size, j, none⟩ = some v :=
  hf.cell (by rw [cell_blk (alloc_new w _)]; simpa using hv) hx
/-- How many names are below a first byte. -/
def CntAt (w : World) (b : Nat) (F : Nat → Nat) : Prop := ∃ cs : Array Value, w.heap[b]? = some (.cells cs T_256_int (0, 0)) ∧ cs.size = 256 ∧ ∀ c, c < 256 → cs[c]? = some (.int .i64 (F c : Nat))
theorem CntAt.keep {w w1 : World} {b : Nat} {F : Nat → Nat} (h : CntAt w b F) {X : Nat → Prop} (hf : Fr X w w1) (hx : ¬ X b) : CntAt w1 b F := by
  obtain ⟨cs, h1, h2⟩ := h
  exact ⟨cs, hf.keep h1 hx, h2⟩
theorem CntAt.at {w : World} {b : Nat} {F : Nat → Nat} (h : CntAt w b F) {c : Nat} (hc : c < 256) : w.cell? ⟨b, c, none⟩ = some (.int .i64 (F c : Nat)) ∧ Wr w ⟨b, c, none⟩ := by
  obtain ⟨cs, h1, h2, h3⟩ := h
  exact ⟨by rw [cell_blk h1]; exact h3 c hc, wr_blk h1 (by omega)⟩
theorem CntAt.set {w : World} {b : Nat} {F G : Nat → Nat} (h : CntAt w b F) {c v : Nat} (hc : c < 256) (hG : ∀ k, k < 256 → G k = if k = c then v else F k) : CntAt (w.setCell ⟨b, c, none⟩ (.int .i64 (v : Nat))) b G := by
  obtain ⟨cs, h1, h2, h3⟩ := h
  refine ⟨_, set_blk h1 _ _, by simpa using h2, fun k hk => ?_⟩
  rw [Array.getElem?_setIfInBounds, hG k hk]
  by_cases hkc : k = c
  · rw [if_pos hkc.symm, if_pos (by omega), if_pos hkc]
  · rw [if_neg (fun e => hkc e.symm), if_neg hkc]; exact h3 k hk
theorem CntAt.load {w : World} {b : Nat} {F : Nat → Nat} (h : CntAt w b F) : (loadVar T_256_int ⟨b, 0, none⟩).run Tryz.prog w = .ok (.agg ((List.range 256).map fun c => .int .i64 (F c : Nat)).toArray) w := by
  refine load_agg (vs := (List.range 256).map fun c => Value.int .i64 (F c : Nat)) (agg_of (by kernel_rfl)) (by rw [List.length_map, List.length_range]; kernel_rfl) fun k v hv => ?_
  rw [add_lit, Nat.zero_add]
  rw [List.getElem?_map] at hv
  by_cases hk : k < 256
  · rw [List.getElem?_range hk, Option.map_some, Option.some.injEq] at hv
    rw [← hv]; exact (h.at hk).1
  · rw [List.getElem?_eq_none (by rw [List.length_range]; omega)] at hv; cases hv
theorem id_unhex (s : ByteArray) : isId s.data.toList = ((unhexL s.data.toList).isSome && decide ((unhexS s).size = 20)) := by
  unfold isId unhexS
  cases h : unhexL s.data.toList with
  | none => rfl
  | some r =>
    have := unhexL_len _ _ h
    show (true && (s.data.toList.length == 40)) = (true && decide ((⟨r.toArray⟩ : ByteArray).size = 20))
    rw [Bool.true_and, Bool.true_and, bs_mksize, Bool.eq_iff_iff, beq_iff_eq, decide_eq_true_eq]; omega
theorem unhexS_raw {s : ByteArray} (h : isId s.data.toList = true) : unhexS s = ⟨(rawB s).toArray⟩ ∧ (unhexS s).size = 20 ∧ (unhexL s.data.toList).isSome = true := by
  obtain ⟨h1, h2, h3⟩ := rawB_id h
  have : unhexS s = ⟨(rawB s).toArray⟩ := by unfold unhexS; rw [h1]
  exact ⟨this, by rw [this, bs_mksize, h2], by rw [h1]; rfl⟩
theorem digest_len (t : List UInt8) : (sha1D t).length = 20 := dig1_len t
end Go.Proofs.YtaaimcbicpgjoaaGreatDoor

/- packidx.Build walked. Conditions: the names are no longer than memory. -/
set_option linter.unusedVariables false
namespace Go.Proofs.YtaaimcbicpgjoaaGreatDoor
open Go Vc HexM SumM ShaM Go.Proofs

/-- What Build hands back. -/
def BuildR (rs : List PRow) (sum : ByteArray) (far : Int) (w : World) (v : Value) (w' : World) : Prop := Fr (fun _ => False) w w' ∧
  ((v = .tuple #[.string ⟨#[]⟩, .int .i64 2] ∧ 1000 < rs.length) ∨
   (rs.length ≤ 1000 ∧ ((v = .tuple #[.string ⟨#[]⟩, .int .i64 4] ∧ ¬ (CheckP rs ∧ isId sum.data.toList = true)) ∨
     (v = .tuple #[.string ⟨(PkM.textT sha1D far ((sortP rs).map rawOf) (rawB sum)).toArray⟩, .int .i64 0] ∧ CheckP rs ∧ isId sum.data.toList = true))))
theorem cnt_new {w w1 : World} {cs : Array Value} (h : w1 = w.alloc (.cells cs T_256_int)) (hc : cs.toList = List.replicate 256 (.int .i64 0)) : CntAt w1 w.heap.size (fun _ => 0) := by
  refine ⟨cs, by rw [h]; exact alloc_new _ _, by rw [← Array.length_toList, hc, List.length_replicate], fun c hc' => ?_⟩
  rw [← Array.getElem?_toList, hc, List.getElem?_replicate, if_pos hc']; rfl
theorem cat_size (A B : List UInt8) (h : A.length + B.length ≤ 1000000000) : (⟨A.toArray⟩ : ByteArray).size + (⟨B.toArray⟩ : ByteArray).size ≤ 9223372036854775807 := by rw [bs_mksize, bs_mksize]; omega
set_option maxHeartbeats 1000000 in
theorem build_spec {w : World} {a : Option Addr} {n c : Nat} {rs : List PRow} (hr : ReadsK encP 3 w a rs) (hn : rs.length = n) (hz : ∀ r ∈ rs, r.1.size ≤ 140737488355328) (hfit : ∀ r ∈ rs, Fits r) (sum : ByteArray) (hsz : sum.size ≤ 140737488355328) (far : Int) :
    Calls Tryz.prog F_packidx_Build #[.slice a n c, .string sum, .int .i64 far] w fun e w' => ∃ v, e = .returned v ∧ BuildR rs sum far w v w' := by
  refine vc_packidx_Build_ok (R := BuildR rs sum far w) ?_ (fun v w' h => ⟨v, rfl, h⟩)
  refine ⟨fun h => ⟨.refl _ _, .inl ⟨rfl, by have := of_decide_eq_true h; omega⟩⟩, fun h => ?_⟩
  have hl : n ≤ 1000 := by have := of_decide_eq_false h; omega
  refine (cloneP_spec hr hn (by omega)).mono ?_
  rintro e w2 ⟨l, rfl, ho2, hf2⟩
  refine ⟨l, rfl, (sortP_spec ho2 (by omega)).mono ?_⟩
  rintro e w5 ⟨rfl, ys, hp, hnear, ho5, hf5⟩
  have hF5 : Fr (fun _ => False) w w5 := hf2.trans hf5 fun q hq ⟨y, hy, e⟩ => by have := (ho2.blk hy).1; omega
  have hyl : ys.length = n := by rw [hp.length_eq, hn]
  have hll : l.len = ys.length := ho5.len
  have hr5 := ho5.reads fun _ => rfl
  have hyz : ∀ r ∈ ys, r.1.size ≤ 140737488355328 := fun r hrm => hz r (hp.subset hrm)
  have hyf : ∀ r ∈ ys, Fits r := fun r hrm => hfit r (hp.subset hrm)
  have bad : ∀ {w' : World}, Fr (fun _ => False) w5 w' → ¬ (CheckP ys ∧ isId sum.data.toList = true) → BuildR rs sum far w (.tuple #[.string ⟨#[]⟩, .int .i64 4]) w' := fun hf hno =>
    ⟨hF5.trans' hf, .inr ⟨by omega, .inl ⟨rfl, fun hh => hno ⟨checkP_perm hp.symm hh.1, hh.2⟩⟩⟩⟩
  refine ⟨rfl, fun i w' => ∃ k : Nat, i = k ∧ k ≤ n ∧ (∀ j x, j < k → ys[j]? = some x → okRow x) ∧ (∀ j x y, j + 1 < k → ys[j]? = some x → ys[j + 1]? = some y → x.1 ≠ y.1) ∧ Fr (fun _ => False) w5 w', fun i _ => n - i.toNat,
    ⟨0, rfl, Nat.zero_le _, fun j x h => by omega, fun j x y h => by omega, .refl _ _⟩, ?_⟩
  rintro i w9 ⟨k, rfl, hk, hok, hadj, hf9⟩
  refine ⟨fun hlt => ?_, fun hge => ?_⟩
  · have hlt := of_decide_eq_true hlt
    have hkl : k < ys.length := by omega
    have hx : ys[k]? = some ys[k] := List.getElem?_eq_getElem hkl
    have hxm : ys[k] ∈ ys := List.getElem_mem hkl
    generalize ys[k] = x at hx hxm
    have e1 : IntKind.i64.wrap ((k : Int) + 1) = ((k + 1 : Nat) : Int) := by rw [wrap_i64 (by omega) (by omega)]; omega
    have e2 : 0 < k → IntKind.i64.wrap ((k : Int) - 1) = ((k - 1 : Nat) : Int) := fun h0 => by rw [wrap_i64 (by omega) (by omega)]; omega
    rw [e1]
    obtain ⟨ad, had, hload⟩ := (hr5.keep hf9 (by simp)).load elP hx
    refine ⟨⟨by omega, by omega⟩, ad, had, x.1, x.2.1, x.2.2, by rw [Int.toNat_natCast]; exact hload, fun w14 h14 => ?_⟩
    subst h14
    have hfa : Fr (fun _ => False) w9 (w9.alloc (.cells (encP x).toArray T_packidx_Row)) := .alloc _ _ _
    have hbx0 := boxP_cell w9 x (.refl (fun _ => False) _) (by simp) (j := 0) rfl
    have hbx1 := boxP_cell w9 x (.refl (fun _ => False) _) (by simp) (j := 1) rfl
    refine ⟨_, boxP_run w9 x, fun w16 d16 => ?_⟩
    generalize w9.alloc (.cells (encP x).toArray T_packidx_Row) = w15 at hfa hbx0 hbx1 d16
    have hf16 := hf9.trans' hfa
    refine ⟨fun w' => Fr (fun _ => False) w15 w', .drew _ d16, x.1, fun w19 h19 => h19.cell hbx0 (by simp), (id_spec x.1 (hyz x hxm) w16).mono ?_⟩
    rintro e w21 ⟨rfl, hf21⟩
    have hfS : Fr (fun _ => False) w15 w21 := (Fr.drew _ d16).trans' hf21
    have hF21 := hf16.trans' hfS
    have nochk : ¬ okRow x → ¬ (CheckP ys ∧ isId sum.data.toList = true) := fun h hh => h (hh.1.1 x hxm)
    refine ⟨_, rfl, hfS, fun hid => bad hF21 (nochk fun h => by rw [h.1] at hid; cases hid), fun hid => ?_⟩
    have hid : isId x.1.data.toList = true := by simpa using hid
    have rest : (∀ y, 0 < k → ys[k - 1]? = some y → y.1 ≠ x.1) → ∃ n28 : Int, ((∀ w29, Fr (fun _ => False) w15 w29 → w29.cell? ⟨w9.heap.size, 1, none⟩ = some (.int .i64 n28)) ∧
        ((decide (n28 < 0) = true → BuildR rs sum far w (.tuple #[.string ⟨#[]⟩, .int .i64 4]) w21) ∧
         (decide (n28 < 0) = false → ∃ n30 : Int, ((∀ w31, Fr (fun _ => False) w15 w31 → w31.cell? ⟨w9.heap.size, 1, none⟩ = some (.int .i64 n30)) ∧
          ((decide (n30 > 1099511627776) = true → BuildR rs sum far w (.tuple #[.string ⟨#[]⟩, .int .i64 4]) w21) ∧
           (decide (n30 > 1099511627776) = false → (∃ k' : Nat, ((k + 1 : Nat) : Int) = k' ∧ k' ≤ n ∧ (∀ j x, j < k' → ys[j]? = some x → okRow x) ∧ (∀ j x y, j + 1 < k' → ys[j]? = some x → ys[j + 1]? = some y → x.1 ≠ y.1) ∧ Fr (fun _ => False) w5 w21) ∧ n - ((k + 1 : Nat) : Int).toNat < n - ((k : Nat) : Int).toNat)))))) := fun hne => by
      refine ⟨x.2.1, fun w29 h29 => h29.cell hbx1 (by simp), fun h => bad hF21 (nochk fun hh => by have := of_decide_eq_true h; have := hh.2.1; omega), fun h => ⟨x.2.1, fun w31 h31 => h31.cell hbx1 (by simp), fun h2 => bad hF21 (nochk fun hh => by have := of_decide_eq_true h2; have := hh.2.2; omega), fun h2 => ⟨⟨k + 1, rfl, by omega, fun j y hj hy => ?_, fun j y z hj hy hz => ?_, hF21⟩, by omega⟩⟩⟩
      · by_cases hjk : j < k
        · exact hok j y hjk hy
        · rw [show j = k by omega, hx] at hy
          cases hy
          exact ⟨hid, by have := of_decide_eq_false h; omega, by have := of_decide_eq_false h2; omega⟩
      · by_cases hjk : j + 1 < k
        · exact hadj j y z hjk hy hz
        · have hj' : j + 1 = k := by omega
          rw [hj', hx] at hz
          cases hz
          exact hne y (by omega) (by rw [show k - 1 = j by omega]; exact hy)
    refine ⟨fun h0 => ?_, fun h0 => rest fun y h => by have := of_decide_eq_false h0; omega⟩
    have h0 : 0 < k := by have := of_decide_eq_true h0; omega
    rw [e2 h0]
    have hy : ys[k - 1]? = some ys[k - 1] := List.getElem?_eq_getElem (by omega)
    generalize ys[k - 1] = y at hy
    obtain ⟨ad', had', hcy⟩ := hr5 (k - 1) y hy
    have hcy0 := hcy 0 (.string y.1) rfl
    rw [show (ad'.add ((k - 1) * 3)).add 0 = ad'.add ((k - 1) * 3) by rw [add_add]; rfl] at hcy0
    refine ⟨⟨by omega, by omega⟩, ad', had', y.1, fun w25 h25 => by rw [Int.toNat_natCast]; exact (hf16.trans' h25).cell hcy0 (by simp), x.1, fun w27 h27 => h27.cell hbx0 (by simp), ?_⟩
    rw [bs_eq]
    refine ⟨fun he => bad hF21 fun hh => ?_, fun hne => rest fun z _ hz => ?_⟩
    · have he : y.1 = x.1 := of_decide_eq_true he
      have := (List.pairwise_iff_getElem.1 hh.1.2) (k - 1) k (by omega) hkl (by omega)
      rw [(List.getElem?_eq_some_iff.1 hx).2, (List.getElem?_eq_some_iff.1 hy).2] at this
      exact this he
    · rw [hy] at hz
      cases hz
      exact of_decide_eq_false hne
  · have hge := of_decide_eq_false hge
    have hk' : k = n := by omega
    subst hk'
    have hrise : RiseP ys := adj_rise hnear fun j x y hx hy => hadj j x y (by have := (List.getElem?_eq_some_iff.1 hy).1; omega) hx hy
    have hchk : CheckP ys := ⟨fun r hrm => by
      obtain ⟨j, hj⟩ := List.mem_iff_getElem?.1 hrm
      exact hok j r (by have := (List.getElem?_eq_some_iff.1 hj).1; omega) hj, rise_dist hrise⟩
    have hchkr := checkP_perm hp hchk
    have hsort : sortP rs = ys := riseP_eq (near_rise (sortP_near rs) (checkP_perm (sortP_perm rs).symm hchkr).2) hrise ((sortP_perm rs).trans hp.symm)
    clear hok hadj hge
    refine (unhex_spec sum hsz w9).mono ?_
    rintro e w37 ⟨rfl, hf37⟩
    have hf37' := hf9.trans' hf37
    have hidu := id_unhex sum
    refine ⟨_, _, rfl, fun hb => bad hf37' fun hh => ?_, fun hb => ⟨fun hs => bad hf37' fun hh => ?_, fun hs w40 h40 => ?_⟩⟩
    · rw [hh.2] at hidu
      have := (Bool.and_eq_true_iff.1 hidu.symm).1
      rw [this] at hb; cases hb
    · rw [hh.2] at hidu
      have := of_decide_eq_true (Bool.and_eq_true_iff.1 hidu.symm).2
      rw [this] at hs; simp at hs
    have hid : isId sum.data.toList = true := by
      rw [hidu]
      have h1 : (unhexL sum.data.toList).isSome = true := by simpa using hb
      have h2 : (unhexS sum).size = 20 := by
        have : ((unhexS sum).size : Int) = 20 := by simpa using hs
        omega
      rw [h1, h2]; rfl
    obtain ⟨hu1, hu2, _⟩ := unhexS_raw hid
    rw [hu1]
    have hraw20 : (rawB sum).length = 20 := (rawB_id hid).2.1
    have hgood := raw_good hchk hrise hyf (by omega)
    have htext : PkM.textT sha1D far ((sortP rs).map rawOf) (rawB sum) = PkM.textT sha1D far (ys.map rawOf) (rawB sum) := by rw [hsort]
    obtain ⟨q1, q2, q3, q4, q5, q6⟩ := PkM.body_parts (far := far) hgood hraw20
    obtain ⟨b, hb⟩ : ∃ b, w37.heap.size = b := ⟨_, rfl⟩
    have hf40 : Fr (fun _ => False) w37 w40 := by rw [h40]; exact .alloc _ _ _
    have hc40 : CntAt w40 b (fun _ => 0) := by rw [← hb]; exact cnt_new h40 (by kernel_rfl)
    clear h40
    rw [hb]
    have hsB : ∀ {w' w2 : World}, Fr (fun _ => False) w37 w' → Fr (· = b) w' w2 → Fr (fun _ => False) w37 w2 := fun h h' => h.trans h' fun q hq e => by omega
    have hrawm : ys.map rawOf = ys.map rawOf := rfl
    obtain ⟨l0, hl0⟩ : ∃ l0, ys.map rawOf = l0 := ⟨_, rfl⟩
    rw [hl0] at htext hgood q1 q2 q3 q4 q5 q6
    clear hrawm
    have hl0l : l0.length = ys.length := by rw [← hl0, List.length_map]
    refine ⟨fun s43 s44 s45 s46 i w' => ∃ k : Nat, i = (k : Int) ∧ k ≤ ys.length ∧ s43 = ⟨((l0.take k).flatMap (·.1)).toArray⟩ ∧ s44 = ⟨((l0.take k).flatMap (fun r => bigB 4 r.2.2)).toArray⟩ ∧ s45 = ⟨((PkM.nearV far 0 (l0.take k)).flatMap (bigB 4)).toArray⟩ ∧
        s46 = ⟨(((l0.take k).filter (PkM.isFar far)).flatMap (fun r => bigB 8 r.2.1)).toArray⟩ ∧ CntAt w' b (PkM.cnt (l0.take k)) ∧ Fr (fun _ => False) w37 w', fun _ _ _ _ i _ => ys.length - i.toNat,
      ⟨0, rfl, Nat.zero_le _, rfl, rfl, rfl, rfl, hc40, hf40⟩, ?_⟩
    clear hc40 hf40
    rintro s43 s44 s45 s46 i w48 ⟨m, rfl, hm, rfl, rfl, rfl, rfl, hc48, hf48⟩
    have hpart : ∀ (l : List PkM.Rw), (∀ r ∈ l, r.1.length = 20) → l.length ≤ 1000 → (l.flatMap (·.1)).length ≤ 20000 ∧ (l.flatMap (fun r => bigB 4 r.2.2)).length ≤ 4000 ∧ ((PkM.nearV far 0 l).flatMap (bigB 4)).length ≤ 4000 ∧ ((l.filter (PkM.isFar far)).flatMap (fun r => bigB 8 r.2.1)).length = 8 * (l.filter (PkM.isFar far)).length ∧ (l.filter (PkM.isFar far)).length ≤ 1000 := fun l h1 h2 => by
      have g1 := PkM.flat_size (f := fun r : PkM.Rw => r.1) (k := 20) l h1
      have g2 := PkM.flat_size (f := fun r : PkM.Rw => bigB 4 r.2.2) (k := 4) l fun r _ => bigB_length _ _
      have g3 := PkM.flat_size (f := bigB 4) (k := 4) (PkM.nearV far 0 l) fun r _ => bigB_length _ _
      have g4 := PkM.flat_size (f := fun r : PkM.Rw => bigB 8 r.2.1) (k := 8) (l.filter (PkM.isFar far)) fun r _ => bigB_length _ _
      have g5 := List.length_filter_le (PkM.isFar far) l
      rw [PkM.nearV_len] at g3
      exact ⟨by omega, by omega, by omega, g4, by omega⟩
    obtain ⟨z1, z2, z3, z4, z5⟩ := hpart (l0.take m) (fun r h => hgood.raw r (List.mem_of_mem_take h)) (by rw [List.length_take]; have := hgood.few; omega)
    refine ⟨fun hlt => ?_, fun hge => ?_⟩
    · have hlt := of_decide_eq_true hlt
      have hkl : m < ys.length := by omega
      have hx : ys[m]? = some ys[m] := List.getElem?_eq_getElem hkl
      have hxm : ys[m] ∈ ys := List.getElem_mem hkl
      generalize ys[m] = x at hx hxm
      have hrx : l0[m]? = some (rawOf x) := by rw [← hl0, List.getElem?_map, hx]; rfl
      have htk : l0.take (m + 1) = l0.take m ++ [rawOf x] := by rw [List.take_add_one, hrx]; rfl
      have e1 : IntKind.i64.wrap ((m : Int) + 1) = ((m + 1 : Nat) : Int) := by rw [wrap_i64 (by omega) (by omega)]; omega
      rw [e1]
      have hf548 : Fr (fun _ => False) w5 w48 := hf37'.trans' hf48
      obtain ⟨ad, had, hload⟩ := (hr5.keep hf548 (by simp)).load elP hx
      obtain ⟨ox1, ox2, ox3⟩ := hchk.1 x hxm
      have fx := hyf x hxm
      obtain ⟨xu1, xu2, _⟩ := unhexS_raw ox1
      have xr20 := (rawB_id ox1).2.1
      refine ⟨⟨by omega, by omega⟩, ad, had, x.1, x.2.1, x.2.2, by rw [Int.toNat_natCast]; exact hload, fun w53 h53 => ?_⟩
      subst h53
      have hfa : Fr (fun _ => False) w48 (w48.alloc (.cells (encP x).toArray T_packidx_Row)) := .alloc _ _ _
      have hbx0 := boxP_cell w48 x (.refl (fun _ => False) _) (by simp) (j := 0) rfl
      have hbx1 := boxP_cell w48 x (.refl (fun _ => False) _) (by simp) (j := 1) rfl
      have hbx2 := boxP_cell w48 x (.refl (fun _ => False) _) (by simp) (j := 2) rfl
      refine ⟨_, boxP_run w48 x, x.1, hbx0, ?_⟩
      have hc54 := hc48.keep hfa (by simp)
      have hgb : w48.heap.size ≠ b := by
        obtain ⟨cs, k1, _⟩ := hc48
        have := lt_blk k1; omega
      generalize w48.alloc (.cells (encP x).toArray T_packidx_Row) = w54 at hfa hbx0 hbx1 hbx2 hc54
      generalize w48.heap.size = g at hbx0 hbx1 hbx2 hgb
      have hf54 := hf48.trans' hfa
      refine (unhex_spec x.1 (hyz x hxm) w54).mono ?_
      rintro e w57 ⟨rfl, hf57⟩
      rw [xu1]
      have hf57' := hf54.trans' hf57
      have hc57 := hc54.keep hf57 (by simp)
      have hbt : IntKind.i64.wrap (byteAt ⟨(rawB x.1).toArray⟩ 0) = ((PkM.hd0 (rawB x.1) : Nat) : Int) := by
        rw [show (0 : Int) = ((0 : Nat) : Int) from rfl, byteAt_nat, hd0_byt, bs_mk]
        have : PkM.hd0 (rawB x.1) < 256 := UInt8.toNat_lt _
        exact wrap_i64 (by omega) (by omega)
      refine ⟨_, _, rfl, ⟨by decide, by rw [bs_mksize, xr20]; decide⟩, ?_⟩
      rw [hbt]
      have hh : PkM.hd0 (rawB x.1) < 256 := UInt8.toNat_lt _
      obtain ⟨h0, hh0⟩ : ∃ h0, PkM.hd0 (rawB x.1) = h0 := ⟨_, rfl⟩
      rw [hh0] at hh ⊢
      have hcs : ∀ c, PkM.cnt (l0.take (m + 1)) c = if h0 ≤ c then PkM.cnt (l0.take m) c + 1 else PkM.cnt (l0.take m) c := fun c => by
        rw [htk, PkM.cnt_snoc, show PkM.hd0 (rawOf x).1 = h0 from hh0]
      refine ⟨fun q w' => ∃ p : Nat, q = p ∧ h0 ≤ p ∧ p ≤ 256 ∧ CntAt w' b (fun c => if h0 ≤ c ∧ c < p then PkM.cnt (l0.take m) c + 1 else PkM.cnt (l0.take m) c) ∧ Fr (· = b) w57 w', fun q _ => 256 - q.toNat,
        ⟨h0, rfl, Nat.le_refl _, by omega, ?_, .refl _ _⟩, ?_⟩
      · obtain ⟨cs, k1, k2, k3⟩ := hc57
        refine ⟨cs, k1, k2, fun c hc => ?_⟩
        have e : (if h0 ≤ c ∧ c < h0 then PkM.cnt (l0.take m) c + 1 else PkM.cnt (l0.take m) c) = PkM.cnt (l0.take m) c := if_neg fun hh => by omega
        show cs[c]? = some (.int .i64 ((if h0 ≤ c ∧ c < h0 then PkM.cnt (l0.take m) c + 1 else PkM.cnt (l0.take m) c : Nat) : Int))
        rw [e]
        exact k3 c hc
      rintro q w63 ⟨p, rfl, hp1, hp2, hc63, hf63⟩
      refine ⟨fun hlt => ?_, fun hge => ?_⟩
      · have hlt := of_decide_eq_true hlt
        obtain ⟨k1, k2⟩ := hc63.at (c := p) (by omega)
        rw [if_neg (fun hh => by omega)] at k1
        rw [Int.toNat_natCast, add_lit, Nat.zero_add, Nat.mul_one]
        have hcl := PkM.cnt_le (l0.take m) p
        rw [List.length_take] at hcl
        have e3 : IntKind.i64.wrap (((PkM.cnt (l0.take m) p : Nat) : Int) + 1) = ((PkM.cnt (l0.take m) p + 1 : Nat) : Int) := by rw [wrap_i64 (by omega) (by omega)]; omega
        have e4 : IntKind.i64.wrap ((p : Int) + 1) = ((p + 1 : Nat) : Int) := by rw [wrap_i64 (by omega) (by omega)]; omega
        refine ⟨⟨by omega, by omega⟩, _, k1, ⟨by omega, by omega⟩, k2, fun w65 h65 => ?_⟩
        rw [e3] at h65
        rw [e4]
        refine ⟨⟨p + 1, rfl, by omega, by omega, ?_, hf63.trans' (by rw [h65]; exact Fr.set (· = b) _ _ rfl)⟩, by dsimp only; omega⟩
        rw [h65]
        refine hc63.set (c := p) (by omega) fun c hc => ?_
        by_cases hcp : c = p
        · subst hcp
          rw [if_pos rfl, if_pos ⟨by omega, by omega⟩]
        · rw [if_neg hcp]
          by_cases hin : h0 ≤ c ∧ c < p
          · rw [if_pos hin, if_pos ⟨hin.1, by omega⟩]
          · rw [if_neg hin, if_neg (fun hh => hin ⟨hh.1, by omega⟩)]
      · have hge := of_decide_eq_false hge
        have hp' : p = 256 := by omega
        subst hp'
        have hc63' : CntAt w63 b (PkM.cnt (l0.take (m + 1))) := by
          obtain ⟨cs, k1, k2, k3⟩ := hc63
          refine ⟨cs, k1, k2, fun c hc => ?_⟩
          have k4 := k3 c hc
          simp only at k4
          rw [k4, hcs]
          by_cases hin : h0 ≤ c
          · rw [if_pos ⟨hin, hc⟩, if_pos hin]
          · rw [if_neg (fun hh => hin hh.1), if_neg hin]
        clear hc63
        have hb63 : ∀ {j v}, w54.cell? ⟨g, j, none⟩ = some v → w63.cell? ⟨g, j, none⟩ = some v := fun h => hf63.cell (hf57.cell h (by simp)) (fun e => hgb e)
        have hf63' := hsB hf57' hf63
        obtain ⟨cr, hcr⟩ : ∃ cr : Nat, x.2.2 = cr := ⟨x.2.2.toNat, (Int.toNat_of_nonneg fx.1).symm⟩
        obtain ⟨pl, hpl⟩ : ∃ pl : Nat, x.2.1 = pl := ⟨x.2.1.toNat, (Int.toNat_of_nonneg ox2).symm⟩
        have hraw : rawOf x = (rawB x.1, pl, cr) := by unfold rawOf; rw [hcr, hpl, Int.toNat_natCast, Int.toNat_natCast]
        have hcrl : cr < 4294967296 := by have := fx.2; omega
        have hpll : pl ≤ 1099511627776 := by omega
        refine ⟨cat_size _ _ (by omega), _, hb63 hbx2, ?_⟩
        rw [hcr, wrap_u64 (by omega) (by omega)]
        refine (big_spec cr 4 (by omega) (by decide) w63).mono ?_
        rintro e w68 ⟨rfl, hf68⟩
        have hb68 : ∀ {j v}, w54.cell? ⟨g, j, none⟩ = some v → w68.cell? ⟨g, j, none⟩ = some v := fun h => hf68.cell (hb63 h) (by simp)
        have hc68 := hc63'.keep hf68 (by simp)
        have hf68' := hf63'.trans' hf68
        have hb4 : (bigB 4 cr).length = 4 := bigB_length _ _
        have hfr : PkM.isFar far (rawOf x) = (decide (far ≤ (pl : Int)) || decide (2147483648 ≤ pl)) := by rw [hraw]; rfl
        refine ⟨_, rfl, cat_size _ _ (by omega), fun bb w' => bb = PkM.isFar far (rawOf x) ∧ w' = w68, ⟨_, hb68 hbx1, fun h => ⟨?_, rfl⟩, fun h => ⟨_, hb68 hbx1, ?_, rfl⟩⟩, ?_⟩
        · rw [hpl] at h
          rw [hfr, decide_eq_true (show far ≤ (pl : Int) by have := of_decide_eq_true h; omega), Bool.true_or]
        · rw [hpl] at h
          rw [hfr, decide_eq_false (show ¬ far ≤ (pl : Int) by have := of_decide_eq_false h; omega), Bool.false_or, hpl]
          exact decide_eq_decide.2 (by omega)
        rintro bb w74 ⟨rfl, hw⟩
        replace hw := hw.symm
        subst hw
        have fN : ⟨((l0.take m).flatMap (·.1)).toArray⟩ ++ (⟨(rawB x.1).toArray⟩ : ByteArray) = ⟨((l0.take (m + 1)).flatMap (·.1)).toArray⟩ := by rw [bs_cat, htk, List.flatMap_append, hraw]; simp
        have fC : ⟨((l0.take m).flatMap (fun r => bigB 4 r.2.2)).toArray⟩ ++ (⟨(bigB 4 cr).toArray⟩ : ByteArray) = ⟨((l0.take (m + 1)).flatMap (fun r => bigB 4 r.2.2)).toArray⟩ := by rw [bs_cat, htk, List.flatMap_append, hraw]; simp
        have fV : ∀ v, (if PkM.isFar far (rawOf x) = true then 2147483648 + 0 + ((l0.take m).filter (PkM.isFar far)).length else (rawOf x).2.1) = v → ⟨((PkM.nearV far 0 (l0.take m)).flatMap (bigB 4)).toArray⟩ ++ (⟨(bigB 4 v).toArray⟩ : ByteArray) = ⟨((PkM.nearV far 0 (l0.take (m + 1))).flatMap (bigB 4)).toArray⟩ := fun v hv => by
          rw [bs_cat, htk, PkM.nearV_snoc, List.flatMap_append, hv]; simp
        refine ⟨fun hfar => ⟨by decide, ?_⟩, fun hnear => ⟨_, hb68 hbx1, ?_⟩⟩
        · have e5 : IntKind.u64.wrap (IntKind.i64.wrap (2147483648 + IntKind.i64.wrap (Int.tdiv ((ByteArray.size ⟨(((l0.take m).filter (PkM.isFar far)).flatMap (fun r => bigB 8 r.2.1)).toArray⟩ : Nat) : Int) 8))) = ((2147483648 + 0 + ((l0.take m).filter (PkM.isFar far)).length : Nat) : Int) := by
            rw [bs_mksize, z4, Int.tdiv_eq_ediv_of_nonneg (Int.natCast_nonneg _)]
            generalize ((l0.take m).filter (PkM.isFar far)).length = u at z5
            rw [show ((8 * u : Nat) : Int) / 8 = (u : Int) by omega, wrap_i64 (x := (u : Int)) (by omega) (by omega), wrap_i64 (by omega) (by omega), wrap_u64 (by omega) (by omega)]; omega
          rw [e5]
          refine (big_spec _ 4 (by omega) (by decide) w68).mono ?_
          rintro e w76 ⟨rfl, hf76⟩
          have hb8 : ∀ v, (bigB 4 v).length = 4 := fun v => bigB_length _ _
          refine ⟨_, rfl, cat_size _ _ (by rw [hb8]; omega), _, hf76.cell (hb68 hbx1) (by simp), ?_⟩
          rw [hpl, wrap_u64 (by omega) (by omega)]
          refine (big_spec pl 8 (by omega) (by decide) w76).mono ?_
          rintro e w80 ⟨rfl, hf80⟩
          refine ⟨_, rfl, cat_size _ _ (by rw [bigB_length, z4]; omega), ⟨m + 1, rfl, by omega, fN, fC, fV _ (by rw [if_pos hfar]), ?_, (hc68.keep hf76 (by simp)).keep hf80 (by simp), (hf68'.trans' hf76).trans' hf80⟩, by dsimp only; omega⟩
          rw [bs_cat, htk, List.filter_append, List.filter_cons_of_pos hfar, List.filter_nil, List.flatMap_append, hraw]; simp
        · rw [hpl, wrap_u64 (by omega) (by omega)]
          refine (big_spec pl 4 (by omega) (by decide) w68).mono ?_
          rintro e w84 ⟨rfl, hf84⟩
          refine ⟨_, rfl, cat_size _ _ (by rw [bigB_length]; omega), ⟨m + 1, rfl, by omega, fN, fC, fV _ (by rw [if_neg (by rw [hnear]; decide), hraw]), ?_, hc68.keep hf84 (by simp), hf68'.trans' hf84⟩, by dsimp only; omega⟩
          rw [htk, List.filter_append, List.filter_cons_of_neg (by rw [hnear]; decide), List.filter_nil, List.append_nil]
    · have hge := of_decide_eq_false hge
      have hm' : m = l0.length := by omega
      subst hm'
      rw [List.take_length] at hc48 z1 z2 z3 z4 z5 ⊢
      refine ⟨_, hc48.load, fun s i w' => ∃ k : Nat, i = (k : Int) ∧ k ≤ 256 ∧ s = ⟨(PkM.magic ++ (List.range k).flatMap fun c => bigB 4 (PkM.cnt l0 c)).toArray⟩ ∧ Fr (fun _ => False) w37 w', fun _ i _ => 256 - i.toNat, ⟨0, rfl, Nat.zero_le _, rfl, hf48⟩, ?_⟩
      rintro s89 i w91 ⟨k, rfl, hk, rfl, hf91⟩
      have hFl := PkM.flat_size (f := fun c => bigB 4 (PkM.cnt l0 c)) (k := 4) (List.range k) fun c _ => bigB_length _ _
      rw [List.length_range] at hFl
      refine ⟨fun hlt => ?_, fun hge => ?_⟩
      · have hlt := of_decide_eq_true hlt
        have e1 : IntKind.i64.wrap ((k : Int) + 1) = ((k + 1 : Nat) : Int) := by rw [wrap_i64 (by omega) (by omega)]; omega
        rw [e1]
        have hix := index_agg (P := Tryz.prog) (w := w91) T_256_int T_int 256 ((List.range 256).map fun c => Value.int .i64 (PkM.cnt l0 c : Nat)) .i64 k (by kernel_rfl) (by kernel_rfl) (by rw [List.length_map, List.length_range]) (by omega) (by kernel_rfl)
        have hgd : ((List.range 256).map fun c => Value.int .i64 (PkM.cnt l0 c : Nat)).getD k undef = .int .i64 (PkM.cnt l0 k : Nat) := by
          rw [List.getD_eq_getElem?_getD, List.getElem?_map, List.getElem?_range (by omega)]; rfl
        rw [hgd] at hix
        have hcl := PkM.cnt_le l0 k
        have := hgood.few
        refine ⟨w91, _, hix, ?_⟩
        rw [wrap_u64 (by omega) (by omega)]
        refine (big_spec _ 4 (by omega) (by decide) w91).mono ?_
        rintro e w95 ⟨rfl, hf95⟩
        refine ⟨_, rfl, cat_size _ _ (by rw [bigB_length, List.length_append, hFl]; show 8 + _ + _ ≤ _; omega), ⟨k + 1, rfl, by omega, ?_, hf91.trans' hf95⟩, by dsimp only; omega⟩
        rw [bs_cat, List.range_succ, List.flatMap_append, List.append_assoc]; simp
      · have hge := of_decide_eq_false hge
        have hk' : k = 256 := by omega
        subst hk'
        have hbody : (⟨(PkM.magic ++ (List.range 256).flatMap fun c => bigB 4 (PkM.cnt l0 c)).toArray⟩ : ByteArray) ++ (⟨(l0.flatMap (·.1)).toArray⟩ ++ ⟨(l0.flatMap (fun r => bigB 4 r.2.2)).toArray⟩ ++ ⟨((PkM.nearV far 0 l0).flatMap (bigB 4)).toArray⟩ ++ ⟨((l0.filter (PkM.isFar far)).flatMap (fun r => bigB 8 r.2.1)).toArray⟩ ++ ⟨(rawB sum).toArray⟩) = ⟨(PkM.bodyT far l0 (rawB sum)).toArray⟩ := by
          rw [bs_cat, bs_cat, bs_cat, bs_cat, bs_cat]
          unfold PkM.bodyT
          simp only [List.append_assoc]
        rw [hbody]
        rw [bs_cat, bs_cat, bs_cat]
        have hml : PkM.magic.length = 8 := rfl
        refine ⟨cat_size _ _ (by omega), ?_, ?_, ?_, ?_, ?_⟩
        · exact cat_size _ _ (by rw [List.length_append]; omega)
        · exact cat_size _ _ (by rw [List.length_append, List.length_append]; omega)
        · exact cat_size _ _ (by rw [List.length_append, List.length_append, List.length_append]; omega)
        · rw [bs_cat]
          exact cat_size _ _ (by rw [List.length_append, List.length_append, List.length_append, List.length_append, List.length_append, q1]; omega)
        refine (sum1_spec _ (by rw [bs_mksize, q6]; omega) w91).mono ?_
        rintro e w98 ⟨rfl, hf98⟩
        rw [bs_mk]
        refine ⟨_, rfl, cat_size _ _ (by have := digest_len (PkM.bodyT far l0 (rawB sum)); unfold sha1D at this; rw [this, q6]; omega), (hF5.trans' hf37').trans' (hf91.trans' hf98), .inr ⟨by omega, .inr ⟨?_, hchkr, hid⟩⟩⟩
        rw [bs_cat, htext]
        rfl
end Go.Proofs.YtaaimcbicpgjoaaGreatDoor

/- Beginnings of texts in plain. No condition. -/
set_option linter.unusedVariables false
namespace Go.Proofs.YtaaimcbicpgjoaaGreatDoor
open Go Vc Go.Proofs

/-- Does s begin with t? -/
def begB (s t : ByteArray) : Bool := decide (t.data.toList <+: s.data.toList)
theorem begB_cut {s t : ByteArray} (h : t.size ≤ s.size) : (ByteArray.toList (s.extract 0 t.size) == ByteArray.toList t) = begB s t := by
  rw [bs_eq]
  unfold begB
  refine decide_eq_decide.2 ⟨fun e => ?_, fun e => ?_⟩
  · rw [← e, bs_head]; exact List.take_prefix _ _
  · obtain ⟨r, hr⟩ := e
    refine bs_ext ?_
    rw [bs_head, ← hr, ← bs_len, List.take_left]
theorem begB_short {s t : ByteArray} (h : ¬ t.size ≤ s.size) : begB s t = false := decide_eq_false fun e => h (by rw [← bs_len, ← bs_len]; exact e.length_le)
theorem beg_le {s t : ByteArray} (h : begB s t = true) : t.size ≤ s.size := by
  have := (of_decide_eq_true h : t.data.toList <+: s.data.toList).length_le
  rw [bs_len, bs_len] at this; exact this
theorem pre_between : ∀ (a b c : List UInt8), ¬ b < a → ¬ c < b → a <+: c → a <+: b
  | [], b, c, _, _, _ => List.nil_prefix
  | x :: a, [], c, h, _, _ => absurd (List.nil_lt_cons x a) h
  | x :: a, y :: b, [], _, _, h => by simp at h
  | x :: a, y :: b, z :: c, h1, h2, h3 => by
    rw [List.cons_prefix_cons] at h3 ⊢
    obtain ⟨rfl, h3⟩ := h3
    rw [List.cons_lt_cons_iff] at h1 h2
    have e1 : ¬ y < x := fun h => h1 (.inl h)
    have e2 : ¬ x < y := fun h => h2 (.inl h)
    have e : x = y := UInt8.toNat_inj.1 (by rw [UInt8.lt_iff_toNat_lt] at e1 e2; omega)
    subst e
    exact ⟨rfl, pre_between a b c (fun h => h1 (.inr ⟨rfl, h⟩)) (fun h => h2 (.inr ⟨rfl, h⟩)) h3⟩
theorem pre_le : ∀ (a c : List UInt8), a <+: c → ¬ c < a
  | [], c, _ => by simp
  | x :: a, [], h => by simp at h
  | x :: a, z :: c, h => by
    rw [List.cons_prefix_cons] at h
    obtain ⟨rfl, h⟩ := h
    rw [List.cons_lt_cons_iff]
    rintro (h1 | ⟨_, h1⟩)
    · rw [UInt8.lt_iff_toNat_lt] at h1; omega
    · exact pre_le a c h h1
theorem filter_mid {α : Type} (f : α → Bool) (xs : List α) {i m : Nat} (him : i ≤ m) (h1 : ∀ k x, xs[k]? = some x → k < i → f x = false) (h2 : ∀ k x, xs[k]? = some x → i ≤ k → k < m → f x = true) (h3 : ∀ k x, xs[k]? = some x → m ≤ k → f x = false) : xs.filter f = (xs.take m).drop i := by
  have hx : xs = (xs.take m).take i ++ (xs.take m).drop i ++ xs.drop m := by rw [List.take_append_drop, List.take_append_drop]
  have e1 : ((xs.take m).take i).filter f = [] := by
    rw [List.filter_eq_nil_iff]
    intro x hx
    obtain ⟨k, hk⟩ := List.mem_iff_getElem?.1 hx
    rw [List.getElem?_take] at hk
    split at hk
    · rename_i hki
      rw [List.getElem?_take, if_pos (by omega)] at hk
      rw [h1 k x hk hki]; decide
    · cases hk
  have e2 : ((xs.take m).drop i).filter f = (xs.take m).drop i := by
    rw [List.filter_eq_self]
    intro x hx
    obtain ⟨k, hk⟩ := List.mem_iff_getElem?.1 hx
    rw [List.getElem?_drop, List.getElem?_take] at hk
    split at hk
    · rename_i hki
      exact h2 _ x hk (by omega) hki
    · cases hk
  have e3 : (xs.drop m).filter f = [] := by
    rw [List.filter_eq_nil_iff]
    intro x hx
    obtain ⟨k, hk⟩ := List.mem_iff_getElem?.1 hx
    rw [List.getElem?_drop] at hk
    rw [h3 _ x hk (by omega)]; decide
  conv => lhs; rw [hx]
  rw [List.filter_append, List.filter_append, e1, e2, e3, List.nil_append, List.append_nil]
end Go.Proofs.YtaaimcbicpgjoaaGreatDoor

/- Formulas of 2 Go functions of this seat (written by a program of the author's, vcgen.py), and that each is enough for the call. No condition. -/
set_option linter.unusedVariables false
namespace Go.Proofs.YtaaimcbicpgjoaaGreatDoor
open Go Vc Go.Proofs
set_option maxRecDepth 100000
/-- strings.HasPrefix -/
def vc_strings_HasPrefix (x0 : ByteArray) (x1 : ByteArray) (w : World) (R : Value → World → Prop) : Prop :=
 Calls Tryz.prog (61 : Nat) (Array.mk [Value.string x0, Value.string x1]) (w) (fun e1 w2 =>
 ∃ b3 : Bool, (e1 = Ending.returned (Value.bool b3) ∧
 R (Value.bool b3) w2))
theorem vc_strings_HasPrefix_ok {x0 : ByteArray} {x1 : ByteArray} {w : World} {R : Value → World → Prop} {R' : Ending → World → Prop} (h : vc_strings_HasPrefix x0 x1 w R) (hR : ∀ v w', R v w' → R' (.returned v) w') :
    Calls Tryz.prog 41 #[.string x0, .string x1] w R' :=
  calls_of_body (vs := [(.string x0, false), (.string x1, false)]) (ty := ty) (ann := ⟨[], [], [], []⟩) (c := Tryz.f41.body.getD .skip) (by kernel_rfl) Tryz.func41 (by kernel_rfl) (by kernel_rfl) (Eq.mp (by kernel_rfl) h) hR
/-- internal/stringslite.HasPrefix -/
def vc_stringslite_HasPrefix (x0 : ByteArray) (x1 : ByteArray) (w : World) (R : Value → World → Prop) : Prop :=
 (((decide ((↑(ByteArray.size x0) : Int) ≥ (↑(ByteArray.size x1) : Int)) = true →
 ((0 ≤ (↑(ByteArray.size x1) : Int) ∧
 (↑(ByteArray.size x1) : Int) ≤ (↑(ByteArray.size x0) : Int)) ∧
 R (Value.bool (ByteArray.toList (ByteArray.extract x0 0 (Int.toNat (↑(ByteArray.size x1) : Int))) == ByteArray.toList x1)) w))) ∧
 (decide ((↑(ByteArray.size x0) : Int) ≥ (↑(ByteArray.size x1) : Int)) = false →
 R (Value.bool false) w))
theorem vc_stringslite_HasPrefix_ok {x0 : ByteArray} {x1 : ByteArray} {w : World} {R : Value → World → Prop} {R' : Ending → World → Prop} (h : vc_stringslite_HasPrefix x0 x1 w R) (hR : ∀ v w', R v w' → R' (.returned v) w') :
    Calls Tryz.prog 61 #[.string x0, .string x1] w R' :=
  calls_of_body (vs := [(.string x0, false), (.string x1, false)]) (ty := ty) (ann := ⟨[], [], [], []⟩) (c := Tryz.f61.body.getD .skip) (by kernel_rfl) Tryz.func61 (by kernel_rfl) (by kernel_rfl) (Eq.mp (by kernel_rfl) h) hR
end Go.Proofs.YtaaimcbicpgjoaaGreatDoor

/- strings.HasPrefix. No condition. -/
set_option linter.unusedVariables false
namespace Go.Proofs.YtaaimcbicpgjoaaGreatDoor
open Go Vc Go.Proofs

theorem hasPrefix_spec (s t : ByteArray) (w : World) : Calls Tryz.prog F_strings_HasPrefix #[.string s, .string t] w fun e w' => e = .returned (.bool (begB s t)) ∧ w' = w := by
  refine vc_strings_HasPrefix_ok (R := fun v w' => v = .bool (begB s t) ∧ w' = w) ?_ (fun v w' h => ⟨by rw [h.1], h.2⟩)
  refine Calls.mono (R := fun e w' => e = .returned (.bool (begB s t)) ∧ w' = w) (vc_stringslite_HasPrefix_ok (R := fun v w' => v = .bool (begB s t) ∧ w' = w) ?_ (fun v w' h => ⟨by rw [h.1], h.2⟩)) ?_
  · refine ⟨fun h => ⟨⟨by omega, by have := of_decide_eq_true h; omega⟩, ?_, rfl⟩, fun h => ⟨?_, rfl⟩⟩
    · have h := of_decide_eq_true h
      rw [Int.toNat_natCast, begB_cut (by omega)]
    · rw [begB_short (by have := of_decide_eq_false h; omega)]
  · rintro e w2 ⟨rfl, rfl⟩
    exact ⟨_, rfl, rfl, rfl⟩
end Go.Proofs.YtaaimcbicpgjoaaGreatDoor
