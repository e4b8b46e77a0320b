/- Find, Few, Unhex, Id. Conditions: as named. -/
import Derived.Test.YtmhlmdnhpfhoeaaGreatDoorVcStr
import Derived.Test.YtmhlmdnhpfhoeaaGreatDoorVcSls
import Derived.Test.YtmhlmdnhpfhoeaaGreatDoorFind1
import Derived.Test.YtmhlmdnhpfhoeaaGreatDoorSums1
set_option linter.unusedVariables false
namespace Vc
open Go
theorem append_new {P : Program} {t e : TypeId} {z : Value} {bytes : Nat} {w : World} {base : Nat} {l : Sl} {xs : List Value} (el : El P t e z bytes) (h : Own w base e l xs) {news : List Value} (h1 : ∀ u ∈ news, u.oneCell' = true)
    (hm : xs.length + news.length ≤ maxLen) (hb : (xs.length + news.length) * bytes ≤ 140737488355328) (hbase : base ≤ w.heap.size) {w2 : World} (hw2 : w2 = w.alloc (.cells news.toArray e)) {m : Nat} (hlen : news.length = m) :
    ∃ w' l', (Builtin.append_ #[t, t] t #[.slice l.a l.len l.cap, .slice (some ⟨w.heap.size, 0, none⟩) m m]).run P w2 = .ok (.slice l'.a l'.len l'.cap) w' ∧ Own w' base e l' (xs ++ news) ∧
      Fr (At l) w w' ∧ Since w l l' := by
  subst hw2
  have h2 : Own (w.alloc (.cells news.toArray e)) base e l xs := h.keep (.alloc (fun _ => False) _ _) (by simp)
  obtain ⟨w', l', hr, ho, hf, hs⟩ := append_all' el h2 (src := some ⟨w.heap.size, 0, none⟩) m (news := news) (fun i v hv => ⟨_, rfl, by rw [add_lit, Nat.zero_add, cell_blk (alloc_new w _)]; simpa using hv⟩) h1 hm hb (by simp; omega) hlen
  refine ⟨w', l', hr, ho, (Fr.alloc _ _ _).trans' hf, fun y hy => ?_⟩
  rcases hs y hy with hx | hn
  · exact .inl hx
  · simp only [World.alloc, Array.size_push] at hn
    exact .inr (by omega)
end Vc
namespace Go.Proofs.YtmhlmdnhpfhoeaaGreatDoor
open Go Vc Go.Proofs

theorem elByteH : El Tryz.prog T_S_uint8 T_uint8 (.int .u8 0) 1 := ⟨by kernel_rfl, by kernel_rfl, rfl⟩
/-- The reference's 'Find'. -/
theorem find_spec (s : ByteArray) (hs : s.size ≤ 140737488355328) (c : Nat) (hc : c < 256) (w : World) : Calls Tryz.prog F_cartularyref08_Find #[.string s, .int .u8 (c : Int)] w fun e w' => e = .returned (.int .i64 (Lib.indexByte s.data.toList (UInt8.ofNat c))) ∧ w' = w := by
  refine vc_cartularyref08_Find_ok (R := fun v w' => v = .int .i64 (Lib.indexByte s.data.toList (UInt8.ofNat c)) ∧ w' = w) ?_ (fun v w' h => ⟨by rw [h.1], h.2⟩)
  refine ⟨fun n w' => w' = w ∧ ∃ k : Nat, n = k ∧ k ≤ s.size ∧ ∀ j, j < k → byt s j ≠ (UInt8.ofNat c).toNat, fun n _ => s.size - n.toNat, ⟨rfl, 0, rfl, Nat.zero_le _, fun j hj => by omega⟩, ?_⟩
  rintro n w4 ⟨hw, k, rfl, hk, hall⟩
  replace hw := hw.symm
  subst hw
  have e1 : IntKind.i64.wrap ((k : Int) + 1) = ((k + 1 : Nat) : Int) := by rw [wrap_i64 (by omega) (by omega)]; omega
  rw [e1]
  refine ⟨fun hlt => ?_, fun hge => ?_⟩
  · have hlt := of_decide_eq_true hlt
    rw [byteAt_nat]
    refine ⟨⟨by omega, by omega⟩, fun he => ⟨?_, rfl⟩, fun hne => ⟨⟨rfl, k + 1, rfl, by omega, fun j hj => ?_⟩, by dsimp only; omega⟩⟩
    · have he := eq_of_beq he
      rw [fnd_at (i := k) (by omega) (by rw [toNat_of c hc]; omega) hall]
    · by_cases hjk : j = k
      · subst hjk
        rw [toNat_of c hc]
        intro e; rw [e] at hne; simp at hne
      · exact hall j (by omega)
  · have hge := of_decide_eq_false hge
    have : k = s.size := by omega
    subst this
    exact ⟨by rw [fnd_no hall], rfl⟩
theorem fewS_spec (s : ByteArray) (n : Nat) (w : World) : Calls Tryz.prog F_cartularylaw01_Few #[.string s, .int .i64 n] w fun e w' => e = .returned (.string (if s.size > n then s.extract 0 n else s)) ∧ w' = w := by
  refine vc_cartularylaw01_Few_ok (R := fun v w' => v = .string (if s.size > n then s.extract 0 n else s) ∧ w' = w) ?_ (fun v w' h => ⟨by rw [h.1], h.2⟩)
  refine ⟨fun h => ?_, fun h => ?_⟩
  · have h := of_decide_eq_true h
    rw [if_pos (by omega)]
    exact ⟨⟨by omega, by omega⟩, by simp, rfl⟩
  · have h := of_decide_eq_false h
    rw [if_neg (by omega)]
    exact ⟨rfl, rfl⟩
theorem fewS_len (s : ByteArray) (n : Nat) : (if s.size > n then s.extract 0 n else s).size ≤ n := by
  split
  · simp; omega
  · omega
end Go.Proofs.YtmhlmdnhpfhoeaaGreatDoor
namespace HexM
/-- A digit. -/
def hx (n : Nat) : Nat := if n < 10 then 48 + n else 87 + n
theorem hx_lt {n : Nat} (h : n < 16) : hx n < 256 := by unfold hx; split <;> omega
def hexL (l : List UInt8) : List UInt8 := l.flatMap fun c => [UInt8.ofNat (hx (c.toNat / 16)), UInt8.ofNat (hx (c.toNat % 16))]
theorem hexL_snoc (l : List UInt8) (c : UInt8) : hexL (l ++ [c]) = hexL l ++ [UInt8.ofNat (hx (c.toNat / 16)), UInt8.ofNat (hx (c.toNat % 16))] := by simp [hexL]
theorem hexL_length (l : List UInt8) : (hexL l).length = 2 * l.length := by
  induction l with
  | nil => rfl
  | cons c l ih => simp only [hexL, List.flatMap_cons, List.length_append, List.length_cons, List.length_nil] at ih ⊢; omega
/-- A digit's number. -/
def dg (c : Nat) : Option Nat := if 48 ≤ c ∧ c ≤ 57 then some (c - 48) else if 97 ≤ c ∧ c ≤ 102 then some (c - 87) else none
theorem dg_lt {c n : Nat} (h : dg c = some n) : n < 16 := by
  unfold dg at h
  split at h
  · cases h; omega
  · split at h
    · cases h; omega
    · cases h
theorem dg_hx {n : Nat} (h : n < 16) : dg (hx n) = some n := by
  unfold hx dg
  split
  · rw [if_pos (by omega)]; congr 1; omega
  · rw [if_neg (by omega), if_pos (by omega)]; congr 1; omega
theorem hx_dg {c n : Nat} (h : dg c = some n) : hx n = c := by
  unfold dg at h
  unfold hx
  split at h
  · cases h; rw [if_pos (by omega)]; omega
  · split at h
    · cases h; rw [if_neg (by omega)]; omega
    · cases h
def unhexL : List UInt8 → Option (List UInt8)
  | [] => some []
  | [_] => none
  | a :: b :: r => match dg a.toNat, dg b.toNat, unhexL r with
    | some x, some y, some l => some (UInt8.ofNat (16 * x + y) :: l)
    | _, _, _ => none
theorem unhexL_len : ∀ (l r : List UInt8), unhexL l = some r → l.length = 2 * r.length
  | [], r, h => by simp only [unhexL, Option.some.injEq] at h; subst h; rfl
  | [_], r, h => by simp [unhexL] at h
  | a :: b :: l, r, h => by
    simp only [unhexL] at h
    split at h
    · rename_i x y q h1 h2 h3
      cases h
      have := unhexL_len l q h3
      simp only [List.length_cons]; omega
    · cases h
theorem unhex_hex : ∀ l : List UInt8, unhexL (hexL l) = some l
  | [] => rfl
  | c :: l => by
    have hc := c.toNat_lt
    have h1 : (UInt8.ofNat (hx (c.toNat / 16))).toNat = hx (c.toNat / 16) := by have := hx_lt (n := c.toNat / 16) (by omega); simp; omega
    have h2 : (UInt8.ofNat (hx (c.toNat % 16))).toNat = hx (c.toNat % 16) := by have := hx_lt (n := c.toNat % 16) (by omega); simp; omega
    have : hexL (c :: l) = UInt8.ofNat (hx (c.toNat / 16)) :: UInt8.ofNat (hx (c.toNat % 16)) :: hexL l := rfl
    rw [this, unhexL, h1, h2, dg_hx (by omega), dg_hx (by omega), unhex_hex l]
    simp only [Option.some.injEq, List.cons.injEq, and_true]
    rw [show 16 * (c.toNat / 16) + c.toNat % 16 = c.toNat by omega, UInt8.ofNat_toNat]
theorem hex_unhex : ∀ (l r : List UInt8), unhexL l = some r → hexL r = l
  | [], r, h => by simp only [unhexL, Option.some.injEq] at h; subst h; rfl
  | [_], r, h => by simp [unhexL] at h
  | a :: b :: l, r, h => by
    simp only [unhexL] at h
    split at h
    · rename_i x y q h1 h2 h3
      cases h
      have hx1 := dg_lt h1
      have hy1 := dg_lt h2
      have e : (UInt8.ofNat (16 * x + y)).toNat = 16 * x + y := by simp; omega
      show UInt8.ofNat (hx ((UInt8.ofNat (16 * x + y)).toNat / 16)) :: UInt8.ofNat (hx ((UInt8.ofNat (16 * x + y)).toNat % 16)) :: hexL q = _
      rw [e, show (16 * x + y) / 16 = x by omega, show (16 * x + y) % 16 = y by omega, hx_dg h1, hx_dg h2, UInt8.ofNat_toNat, UInt8.ofNat_toNat, hex_unhex l q h3]
    · cases h
/-- All are digits. -/
def digits (l : List UInt8) : Bool := l.all fun c => (dg c.toNat).isSome
theorem unhexL_iff : ∀ l : List UInt8, (unhexL l).isSome = (digits l && l.length % 2 == 0)
  | [] => rfl
  | [a] => by simp [unhexL]
  | a :: b :: l => by
    have ih := unhexL_iff l
    have hl : (a :: b :: l).length % 2 = l.length % 2 := by simp only [List.length_cons]; omega
    rw [hl]
    simp only [unhexL, digits, List.all_cons] at ih ⊢
    cases h1 : dg a.toNat <;> cases h2 : dg b.toNat <;> simp
    cases h3 : unhexL l <;> rw [h3] at ih <;> simp at ih ⊢ <;> simpa using ih
/-- An object's name. -/
def isId (l : List UInt8) : Bool := (unhexL l).isSome && l.length == 40
theorem unhexL_take : ∀ (n : Nat) (l : List UInt8) (r : List UInt8), unhexL (l.take (2 * n)) = some r → 2 * n ≤ l.length → ∀ a b : UInt8, l[2 * n]? = some a → l[2 * n + 1]? = some b →
    unhexL (l.take (2 * (n + 1))) = (match dg a.toNat, dg b.toNat with | some x, some y => some (r ++ [UInt8.ofNat (16 * x + y)]) | _, _ => none)
  | 0, l, r, h, _, a, b, ha, hb => by
    match l, ha, hb with
    | a' :: b' :: l, ha, hb =>
      simp only [Nat.mul_zero, List.getElem?_cons_zero, Option.some.injEq] at ha
      simp only [Nat.mul_zero, Nat.zero_add, List.getElem?_cons_succ, List.getElem?_cons_zero, Option.some.injEq] at hb
      subst ha; subst hb
      simp only [Nat.mul_zero, List.take_zero, unhexL, Option.some.injEq] at h
      subst h
      show unhexL [a', b'] = _
      cases h1 : dg a'.toNat <;> cases h2 : dg b'.toNat <;> simp [unhexL, h1, h2]
    | [], ha, _ => simp at ha
    | [_], _, hb => simp at hb
  | n + 1, l, r, h, hl, a, b, ha, hb => by
    match l, hl with
    | a' :: b' :: l, hl =>
      have ha' : l[2 * n]? = some a := by simpa [show 2 * (n + 1) = 2 * n + 1 + 1 by omega] using ha
      have hb' : l[2 * n + 1]? = some b := by simpa [show 2 * (n + 1) + 1 = 2 * n + 1 + 1 + 1 by omega] using hb
      have ht : ∀ k, (a' :: b' :: l).take (2 * (k + 1)) = a' :: b' :: l.take (2 * k) := fun k => by rw [show 2 * (k + 1) = 2 * k + 1 + 1 by omega]; rfl
      rw [ht] at h ⊢
      simp only [unhexL] at h
      split at h
      · rename_i x y q h1 h2 h3
        cases h
        have ih := unhexL_take n l q h3 (by simp only [List.length_cons] at hl; omega) a b ha' hb'
        simp only [unhexL, h1, h2, ih]
        cases dg a.toNat <;> cases dg b.toNat <;> simp
      · cases h
    | [], hl => simp at hl
    | [_], hl => simp only [List.length_cons, List.length_nil] at hl; omega
theorem unhexL_bad : ∀ (n : Nat) (l : List UInt8) (a : UInt8), l[n]? = some a → dg a.toNat = none → unhexL l = none := fun n l a h hd => by
  have := unhexL_iff l
  cases hu : unhexL l with
  | none => rfl
  | some r =>
    exfalso
    rw [hu] at this
    simp only [Option.isSome_some, digits] at this
    have h2 := (Bool.and_eq_true _ _ ▸ this.symm).1
    rw [List.all_eq_true] at h2
    have := h2 a (List.mem_of_getElem? h)
    rw [hd] at this; cases this
end HexM
namespace Go.Proofs.YtmhlmdnhpfhoeaaGreatDoor
open Go Vc HexM Go.Proofs

theorem digit_spec (c : Nat) (hc : c < 256) (w : World) : Calls Tryz.prog F_sums_digit #[.int .u8 (c : Int)] w fun e w' => e = .returned (.int .i64 (match dg c with | some n => (n : Int) | none => -1)) ∧ w' = w := by
  refine vc_sums_digit_ok (R := fun v w' => v = .int .i64 (match dg c with | some n => (n : Int) | none => -1) ∧ w' = w) ?_ (fun v w' h => ⟨by rw [h.1], h.2⟩)
  refine ⟨fun b w' => b = decide (48 ≤ c ∧ c ≤ 57) ∧ w' = w, ⟨fun h => ⟨?_, rfl⟩, fun h => ⟨?_, rfl⟩⟩, ?_⟩
  · have h := of_decide_eq_true h
    exact decide_eq_decide.2 ⟨fun _ => ⟨by omega, by omega⟩, fun _ => by omega⟩
  · have h := of_decide_eq_false h
    rw [decide_eq_false (by omega)]
  · rintro b w3 ⟨rfl, rfl⟩
    unfold dg
    refine ⟨fun h => ?_, fun h => ⟨fun h2 => ⟨fun h3 => ?_, fun h3 => ?_⟩, fun h2 => ?_⟩⟩
    · have h := of_decide_eq_true h
      rw [if_pos h, wrap_u8 (by omega) (by omega), wrap_i64 (by omega) (by omega)]
      exact ⟨by congr 1; simp only; omega, rfl⟩
    · have h := of_decide_eq_false h
      have h2 := of_decide_eq_true h2
      have h3 := of_decide_eq_true h3
      rw [if_neg h, if_pos (by omega), wrap_u8 (by omega) (by omega), wrap_i64 (x := (c : Int) - 97) (by omega) (by omega), wrap_i64 (by omega) (by omega)]
      exact ⟨by congr 1; simp only; omega, rfl⟩
    · have h := of_decide_eq_false h
      have h3 := of_decide_eq_false h3
      rw [if_neg h, if_neg (by omega)]
      exact ⟨rfl, rfl⟩
    · have h := of_decide_eq_false h
      have h2 := of_decide_eq_false h2
      rw [if_neg h, if_neg (by omega)]
      exact ⟨rfl, rfl⟩
def unhexS (s : ByteArray) : ByteArray := match unhexL s.data.toList with | some l => ⟨l.toArray⟩ | none => ⟨#[]⟩
/-- 'Unhex'. -/
theorem unhex_spec (s : ByteArray) (hs : s.size ≤ 140737488355328) (w : World) : Calls Tryz.prog F_sums_Unhex #[.string s] w fun e w' => e = .returned (.tuple #[.string (unhexS s), .bool (unhexL s.data.toList).isSome]) ∧ Fr (fun _ => False) w w' := by
  refine vc_sums_Unhex_ok (R := fun v w' => v = .tuple #[.string (unhexS s), .bool (unhexL s.data.toList).isSome] ∧ Fr (fun _ => False) w w') ?_ (fun v w' h => ⟨by rw [h.1], h.2⟩)
  have hbad : ∀ {w' : World} {k : Nat}, k < s.size → dg (byt s k) = none → Fr (fun _ => False) w w' → (Value.tuple #[.string ⟨#[]⟩, .bool false] = .tuple #[.string (unhexS s), .bool (unhexL s.data.toList).isSome] ∧ Fr (fun _ => False) w w') := fun {w' k} hk hd hf => by
    have := unhexL_bad k s.data.toList _ (bs_get hk) (by rw [toNat_of _ (byt_lt _ _)]; exact hd)
    unfold unhexS
    rw [this]
    exact ⟨rfl, hf⟩
  refine ⟨fun l n w' => ∃ k r, n = ((2 * k : Nat) : Int) ∧ 2 * k ≤ s.size ∧ unhexL (s.data.toList.take (2 * k)) = some r ∧ Own w' w.heap.size T_uint8 l (byteV r) ∧ Fr (fun _ => False) w w', fun _ n _ => s.size - n.toNat, ⟨0, [], rfl, Nat.zero_le _, rfl, .nil _ _ _, .refl _ _⟩, ?_⟩
  rintro l3 n w5 ⟨k, r, rfl, hk, hr, ho, hf⟩
  have e1 : IntKind.i64.wrap (((2 * k : Nat) : Int) + 1) = ((2 * k + 1 : Nat) : Int) := by rw [wrap_i64 (by omega) (by omega)]; omega
  have e2 : IntKind.i64.wrap (((2 * k : Nat) : Int) + 2) = ((2 * (k + 1) : Nat) : Int) := by rw [wrap_i64 (by omega) (by omega)]; omega
  rw [e1, e2]
  have hrl : r.length = k := by
    have := unhexL_len _ _ hr
    rw [List.length_take, bs_len] at this; omega
  refine ⟨fun hlt w6 d6 => ?_, fun hge => ?_⟩
  · have hlt := of_decide_eq_true hlt
    rw [byteAt_nat, byteAt_nat]
    have hf6 : Fr (fun _ => False) w w6 := hf.trans' (.drew _ d6)
    refine ⟨fun _ => True, trivial, ⟨by omega, by omega⟩, ⟨by omega, by omega⟩, (digit_spec _ (byt_lt _ _) w6).mono ?_⟩
    rintro e w9 ⟨rfl, hw⟩
    replace hw := hw.symm
    subst hw
    refine ⟨_, rfl, trivial, (digit_spec _ (byt_lt _ _) w6).mono ?_⟩
    rintro e w12 ⟨rfl, hw⟩
    replace hw := hw.symm
    subst hw
    refine ⟨_, rfl, trivial, fun h => ?_, fun h => ⟨fun h2 => ?_, fun h2 => ⟨by decide, fun w14 h14 => ?_⟩⟩⟩
    · have h := of_decide_eq_true h
      cases hd : dg (byt s (2 * k)) with
      | none => exact hbad (k := 2 * k) (by omega) hd hf6
      | some x => rw [hd] at h; simp only at h; omega
    · have h2 := of_decide_eq_true h2
      cases hd : dg (byt s (2 * k + 1)) with
      | none => exact hbad (k := 2 * k + 1) (by omega) hd hf6
      | some x => rw [hd] at h2; simp only at h2; omega
    · have h := of_decide_eq_false h
      have h2 := of_decide_eq_false h2
      cases hd : dg (byt s (2 * k)) with
      | none => rw [hd] at h; simp at h
      | some x =>
        cases hd2 : dg (byt s (2 * k + 1)) with
        | none => rw [hd2] at h2; simp at h2
        | some y =>
          have hx1 := dg_lt hd
          have hy1 := dg_lt hd2
          have hor : 2 ^ 4 * x ||| y = 2 ^ 4 * x + y := (Nat.two_pow_add_eq_or_of_lt hy1 _).symm
          have ev : IntKind.u8.wrap (IntKind.i64.wrap (((BitVec.ofInt 64 (IntKind.i64.wrap ((x : Int) * 2 ^ min (Int.toNat 4) 64)) ||| BitVec.ofInt 64 (y : Int)).toNat : Nat) : Int)) = ((16 * x + y : Nat) : Int) := by
            rw [show (x : Int) * 2 ^ min (Int.toNat 4) 64 = ((2 ^ 4 * x : Nat) : Int) by rw [show (2 : Int) ^ min (Int.toNat 4) 64 = ((2 ^ 4 : Nat) : Int) from rfl, ← Int.natCast_mul, Nat.mul_comm], wrap_i64 (x := ((2 ^ 4 * x : Nat) : Int)) (by omega) (by omega), or_nat 64 _ _ (by omega) (by omega), hor, wrap_i64 (by omega) (by omega), wrap_u8 (by omega) (by omega)]
          rw [hd, hd2] at h14
          simp only at h14
          rw [ev] at h14
          obtain ⟨w15, l16, hr15, ho15, hf15, _⟩ := append_one' elByteH (ho.drew d6) (v := .int .u8 ((16 * x + y : Nat) : Int)) rfl (by rw [bv_len, hrl]; unfold maxLen; omega) (by rw [bv_len, hrl]; omega) hf6.size h14
          have ht := unhexL_take k s.data.toList r hr (by rw [bs_len]; omega) _ _ (bs_get (by omega)) (bs_get (by omega))
          rw [toNat_of _ (byt_lt _ _), toNat_of _ (byt_lt _ _), hd, hd2] at ht
          refine ⟨w15, l16, hr15, ⟨k + 1, _, rfl, by omega, ht, ?_, ?_⟩, by dsimp only; omega⟩
          · rw [← bv_snoc _ _ (by omega)]; exact ho15
          · exact hf6.trans hf15 fun q hq ⟨y, hy, e⟩ => by
              have := (ho.blk hy).1; omega
  · have hge := of_decide_eq_false hge
    have hm : Int.tmod (s.size : Int) 2 = ((s.size % 2 : Nat) : Int) := by rw [show (2 : Int) = ((2 : Nat) : Int) from rfl, Int.ofNat_tmod]
    rw [hm]
    refine ⟨by decide, fun h => ?_, fun h => ?_⟩
    · have h : ((s.size % 2 : Nat) : Int) ≠ 0 := by simpa using h
      have := unhexL_iff s.data.toList
      rw [bs_len, show (s.size % 2 == 0) = false by rw [beq_eq_false_iff_ne]; omega, Bool.and_false] at this
      have hn : unhexL s.data.toList = none := by simpa using this
      unfold unhexS
      rw [hn]
      exact ⟨rfl, hf⟩
    · have h : ((s.size % 2 : Nat) : Int) = 0 := by simpa using h
      have hks : 2 * k = s.size := by omega
      rw [hks, bs_all] at hr
      refine ⟨_, _, bytes_str (e := T_uint8) (by kernel_rfl) (by kernel_rfl) (by kernel_rfl) l3.cap ho.reads (by rw [ho.len, bv_len]), ?_, hf⟩
      unfold unhexS
      rw [hr]; rfl
/-- 'Id'. -/
theorem id_spec (s : ByteArray) (hs : s.size ≤ 140737488355328) (w : World) : Calls Tryz.prog F_sums_Id #[.string s] w fun e w' => e = .returned (.bool (isId s.data.toList)) ∧ Fr (fun _ => False) w w' := by
  refine vc_sums_Id_ok (R := fun v w' => v = .bool (isId s.data.toList) ∧ Fr (fun _ => False) w w') ?_ (fun v w' h => ⟨by rw [h.1], h.2⟩)
  refine (unhex_spec s hs w).mono ?_
  rintro e w2 ⟨rfl, hf⟩
  refine ⟨_, _, rfl, fun h => ⟨?_, hf⟩, fun h => ⟨?_, hf⟩⟩
  · unfold isId
    rw [h, Bool.true_and, bs_len]
    congr 1
    rw [Bool.eq_iff_iff, beq_iff_eq, beq_iff_eq]; omega
  · unfold isId; rw [h]; rfl
end Go.Proofs.YtmhlmdnhpfhoeaaGreatDoor
