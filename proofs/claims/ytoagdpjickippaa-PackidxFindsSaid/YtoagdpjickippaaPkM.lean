/- Indexes of packs in plain: what bytes say, what bytes rows have, and that these say the rows again. No condition. -/
import Derived.Test.YtoagdpjickippaaSumK
set_option linter.unusedVariables false
namespace PkM
open SumM

/-- A row: the name's bytes, the place, the sum. -/
abbrev Rw := List UInt8 × Nat × Nat
def sl (L : List UInt8) (i n : Nat) : List UInt8 := (L.drop i).take n
def magic : List UInt8 := [255, 116, 79, 99, 0, 0, 0, 2]
def hd0 (l : List UInt8) : Nat := (l.headD 0).toNat
def fan (L : List UInt8) (i : Nat) : Nat := num8 (sl L (8 + 4 * i) 4)
def fanB (L : List UInt8) (c : Nat) : Nat := if c = 0 then 0 else fan L (c - 1)
def farL (L : List UInt8) (n : Nat) : List UInt8 := sl L (1032 + 28 * n) (L.length - 40 - (1032 + 28 * n))
def placeE (far : List UInt8) (v : Nat) : Except Nat Nat := if v < 2147483648 then .ok v else if far.length / 8 ≤ v - 2147483648 then .error 3 else .ok (num8 (sl far (8 * (v - 2147483648)) 8))
def stepE (L : List UInt8) (n i : Nat) : Except Nat Rw :=
  if 0 < i ∧ ¬ sl L (1032 + 20 * i - 20) 20 < sl L (1032 + 20 * i) 20 then .error 3
  else if i < fanB L (hd0 (sl L (1032 + 20 * i) 20)) then .error 3
  else if fanB L (hd0 (sl L (1032 + 20 * i) 20) + 1) ≤ i then .error 3
  else match placeE (farL L n) (num8 (sl L (1032 + 24 * n + 4 * i) 4)) with
    | .error e => .error e
    | .ok a => if 1099511627776 < a then .error 2 else .ok (sl L (1032 + 20 * i) 20, a, num8 (sl L (1032 + 20 * n + 4 * i) 4))
def rowsE (L : List UInt8) (n : Nat) : Nat → Nat → Except Nat (List Rw)
  | _, 0 => .ok []
  | i, k + 1 => match stepE L n i with
    | .error e => .error e
    | .ok r => match rowsE L n (i + 1) k with
      | .error e => .error e
      | .ok rs => .ok (r :: rs)
def parseE (D : List UInt8 → List UInt8) (L : List UInt8) : Except Nat (List Rw × List UInt8) :=
  if L.length < 1072 then .error 6
  else if L.take 8 ≠ magic then .error 3
  else if ∃ i, i < 255 ∧ fan L (i + 1) < fan L i then .error 3
  else if 1000 < fan L 255 then .error 2
  else if L.length < 1072 + 28 * fan L 255 then .error 6
  else if (L.length - (1072 + 28 * fan L 255)) % 8 ≠ 0 then .error 3
  else match rowsE L (fan L 255) 0 (fan L 255) with
    | .error e => .error e
    | .ok rows => if D (L.take (L.length - 20)) ≠ L.drop (L.length - 20) then .error 5 else .ok (rows, sl L (L.length - 40) 20)
def cnt (l : List Rw) (c : Nat) : Nat := (l.filter fun r => decide (hd0 r.1 ≤ c)).length
def isFar (far : Int) (r : Rw) : Bool := decide (far ≤ (r.2.1 : Int)) || decide (2147483648 ≤ r.2.1)
def nearV (far : Int) : Nat → List Rw → List Nat
  | _, [] => []
  | k, r :: rs => if isFar far r = true then (2147483648 + k) :: nearV far (k + 1) rs else r.2.1 :: nearV far k rs
def bodyT (far : Int) (l : List Rw) (sum : List UInt8) : List UInt8 :=
  magic ++ ((List.range 256).flatMap (fun c => bigB 4 (cnt l c)) ++ (l.flatMap (·.1) ++ (l.flatMap (fun r => bigB 4 r.2.2) ++ ((nearV far 0 l).flatMap (bigB 4) ++ ((l.filter (isFar far)).flatMap (fun r => bigB 8 r.2.1) ++ sum)))))
def textT (D : List UInt8 → List UInt8) (far : Int) (l : List Rw) (sum : List UInt8) : List UInt8 := bodyT far l sum ++ D (bodyT far l sum)
/-- Rows that an index holds. -/
structure Good (l : List Rw) : Prop where
  raw : ∀ r ∈ l, r.1.length = 20
  place : ∀ r ∈ l, r.2.1 ≤ 1099511627776
  crc : ∀ r ∈ l, r.2.2 < 4294967296
  rise : l.Pairwise fun x y => x.1 < y.1
  few : l.length ≤ 1000
theorem sl_len {L : List UInt8} {i n : Nat} (h : i + n ≤ L.length) : (sl L i n).length = n := by
  unfold sl; rw [List.length_take, List.length_drop]; omega
theorem sl_mid (P Q R : List UInt8) {j m : Nat} (h : j + m ≤ Q.length) : sl (P ++ (Q ++ R)) (P.length + j) m = sl Q j m := by
  unfold sl
  rw [← List.drop_drop, List.drop_left, List.drop_append_of_le_length (by omega), List.take_append_of_le_length (by rw [List.length_drop]; omega)]
theorem flat_size {α : Type} {f : α → List UInt8} {k : Nat} : ∀ (l : List α), (∀ x ∈ l, (f x).length = k) → (l.flatMap f).length = k * l.length
  | [], _ => by simp
  | x :: r, h => by
    rw [List.flatMap_cons, List.length_append, h x (.head _), flat_size r fun y hy => h y (.tail _ hy), List.length_cons, Nat.mul_succ]; omega
theorem sl_flat {α : Type} {f : α → List UInt8} {k : Nat} : ∀ (l : List α) (i : Nat) (x : α), (∀ x ∈ l, (f x).length = k) → l[i]? = some x → sl (l.flatMap f) (k * i) k = f x
  | y :: r, 0, x, h, hx => by
    simp only [List.getElem?_cons_zero, Option.some.injEq] at hx
    subst hx
    unfold sl
    rw [Nat.mul_zero, List.drop_zero, List.flatMap_cons, List.take_left' (h y (.head _))]
  | y :: r, i + 1, x, h, hx => by
    have := sl_flat r i x (fun z hz => h z (.tail _ hz)) (by simpa using hx)
    unfold sl at this ⊢
    rw [List.flatMap_cons, Nat.mul_succ, Nat.add_comm, ← List.drop_drop, List.drop_left' (h y (.head _))]
    exact this
  | [], i, x, _, hx => by simp at hx
theorem nearV_len (far : Int) : ∀ (k : Nat) (l : List Rw), (nearV far k l).length = l.length
  | _, [] => rfl
  | k, r :: rs => by
    rw [nearV]
    split
    · rw [List.length_cons, nearV_len far (k + 1) rs, List.length_cons]
    · rw [List.length_cons, nearV_len far k rs, List.length_cons]
theorem nearV_at (far : Int) : ∀ (k : Nat) (l : List Rw) (i : Nat) (r : Rw), l[i]? = some r →
    (isFar far r = true → (nearV far k l)[i]? = some (2147483648 + k + ((l.take i).filter (isFar far)).length) ∧ (l.filter (isFar far))[((l.take i).filter (isFar far)).length]? = some r) ∧
    (isFar far r = false → (nearV far k l)[i]? = some r.2.1)
  | k, x :: rs, 0, r, h => by
    simp only [List.getElem?_cons_zero, Option.some.injEq] at h
    subst h
    rw [nearV]
    refine ⟨fun hf => ?_, fun hf => ?_⟩
    · rw [if_pos hf, List.filter_cons_of_pos hf]; simp
    · rw [if_neg (by rw [hf]; decide)]; rfl
  | k, x :: rs, i + 1, r, h => by
    rw [nearV]
    by_cases hx : isFar far x = true
    · obtain ⟨h1, h2⟩ := nearV_at far (k + 1) rs i r (by simpa using h)
      rw [if_pos hx, List.take_succ_cons, List.filter_cons_of_pos hx, List.filter_cons_of_pos hx]
      refine ⟨fun hf => ?_, fun hf => by rw [List.getElem?_cons_succ]; exact h2 hf⟩
      obtain ⟨h3, h4⟩ := h1 hf
      rw [List.getElem?_cons_succ, h3, List.length_cons, List.getElem?_cons_succ]
      exact ⟨by congr 1; omega, h4⟩
    · obtain ⟨h1, h2⟩ := nearV_at far k rs i r (by simpa using h)
      rw [if_neg hx, List.take_succ_cons, List.filter_cons_of_neg hx, List.filter_cons_of_neg hx]
      refine ⟨fun hf => ?_, fun hf => by rw [List.getElem?_cons_succ]; exact h2 hf⟩
      rw [List.getElem?_cons_succ]
      exact h1 hf
  | k, [], i, r, h => by simp at h
theorem nearV_lt (far : Int) : ∀ (k : Nat) (l : List Rw), k + l.length ≤ 1000000 → (∀ r ∈ l, r.2.1 < 2147483648 ∨ isFar far r = true) → ∀ v ∈ nearV far k l, v < 4294967296
  | k, [], _, _, v, hv => by simp [nearV] at hv
  | k, r :: rs, hk, h, v, hv => by
    rw [List.length_cons] at hk
    rw [nearV] at hv
    split at hv
    · rcases List.mem_cons.1 hv with rfl | hv
      · omega
      · exact nearV_lt far (k + 1) rs (by omega) (fun x hx => h x (.tail _ hx)) v hv
    · rename_i hf
      rcases List.mem_cons.1 hv with rfl | hv
      · rcases h r (.head _) with h | h
        · omega
        · exact absurd h hf
      · exact nearV_lt far k rs (by omega) (fun x hx => h x (.tail _ hx)) v hv
theorem near_far {far : Int} {r : Rw} (h : isFar far r = false) : r.2.1 < 2147483648 := by
  unfold isFar at h
  rw [Bool.or_eq_false_iff] at h
  have := of_decide_eq_false h.2
  omega
theorem cnt_le (l : List Rw) (c : Nat) : cnt l c ≤ l.length := List.length_filter_le _ _
theorem cnt_mono (l : List Rw) (c : Nat) : cnt l c ≤ cnt l (c + 1) := by
  unfold cnt
  rw [← List.countP_eq_length_filter, ← List.countP_eq_length_filter]
  refine List.countP_mono_left fun x _ h => ?_
  have := of_decide_eq_true h
  exact decide_eq_true (by omega)
theorem cnt_all (l : List Rw) : cnt l 255 = l.length := by
  unfold cnt
  rw [List.filter_eq_self.2]
  intro r _
  have := (r.1.headD 0).toNat_lt
  exact decide_eq_true (by unfold hd0; omega)
theorem head_le {a b : List UInt8} (ha : a.length = 20) (hb : b.length = 20) (h : a < b) : hd0 a ≤ hd0 b := by
  match a, b, ha, hb with
  | x :: a, y :: b, _, _ =>
    rw [List.cons_lt_cons_iff] at h
    show x.toNat ≤ y.toNat
    rcases h with h | ⟨h, _⟩
    · rw [UInt8.lt_iff_toNat_lt] at h; omega
    · rw [h]; exact Nat.le_refl _
theorem head_rise {l : List Rw} (h : Good l) {i j : Nat} {x y : Rw} (hx : l[i]? = some x) (hy : l[j]? = some y) (hij : i ≤ j) : hd0 x.1 ≤ hd0 y.1 := by
  rcases Nat.lt_or_ge i j with hlt | hge
  · obtain ⟨hi, rfl⟩ := List.getElem?_eq_some_iff.1 hx
    obtain ⟨hj, rfl⟩ := List.getElem?_eq_some_iff.1 hy
    exact head_le (h.raw _ (List.getElem_mem hi)) (h.raw _ (List.getElem_mem hj)) ((List.pairwise_iff_getElem.1 h.rise) i j hi hj hlt)
  · rw [show i = j by omega, hy] at hx
    cases hx; exact Nat.le_refl _
theorem cnt_hi {l : List Rw} (h : Good l) {i : Nat} {x : Rw} (hx : l[i]? = some x) : i < cnt l (hd0 x.1) := by
  have hi := (List.getElem?_eq_some_iff.1 hx).1
  have h1 : l.take (i + 1) = (l.take (i + 1)).filter fun r => decide (hd0 r.1 ≤ hd0 x.1) := by
    refine (List.filter_eq_self.2 fun r hr => ?_).symm
    obtain ⟨j, hj⟩ := List.mem_iff_getElem?.1 hr
    rw [List.getElem?_take] at hj
    split at hj
    · exact decide_eq_true (head_rise h hj hx (by omega))
    · cases hj
  have h2 := congrArg List.length h1
  rw [List.length_take] at h2
  unfold cnt
  have h4 : l.filter (fun r => decide (hd0 r.1 ≤ hd0 x.1)) = (l.take (i + 1)).filter (fun r => decide (hd0 r.1 ≤ hd0 x.1)) ++ (l.drop (i + 1)).filter (fun r => decide (hd0 r.1 ≤ hd0 x.1)) := by rw [← List.filter_append, List.take_append_drop]
  rw [h4, List.length_append, ← h2]; omega
theorem cnt_lo {l : List Rw} (h : Good l) {i c : Nat} {x : Rw} (hx : l[i]? = some x) (hc : c < hd0 x.1) : cnt l c ≤ i := by
  have hi := (List.getElem?_eq_some_iff.1 hx).1
  have h1 : (l.drop i).filter (fun r => decide (hd0 r.1 ≤ c)) = [] := by
    refine List.filter_eq_nil_iff.2 fun r hr => ?_
    obtain ⟨j, hj⟩ := List.mem_iff_getElem?.1 hr
    rw [List.getElem?_drop] at hj
    have := head_rise h hx hj (by omega)
    simp; omega
  unfold cnt
  have h3 : l.filter (fun r => decide (hd0 r.1 ≤ c)) = (l.take i).filter (fun r => decide (hd0 r.1 ≤ c)) ++ (l.drop i).filter (fun r => decide (hd0 r.1 ≤ c)) := by rw [← List.filter_append, List.take_append_drop]
  have h4 := List.length_filter_le (fun r : Rw => decide (hd0 r.1 ≤ c)) (l.take i)
  rw [List.length_take] at h4
  rw [h3, h1, List.append_nil]; omega
section
variable {D : List UInt8 → List UInt8} {far : Int} {l : List Rw} {sum : List UInt8}
theorem body_parts (h : Good l) (hs : sum.length = 20) :
    ((List.range 256).flatMap (fun c => bigB 4 (cnt l c))).length = 1024 ∧ (l.flatMap (·.1)).length = 20 * l.length ∧ (l.flatMap (fun r => bigB 4 r.2.2)).length = 4 * l.length ∧ ((nearV far 0 l).flatMap (bigB 4)).length = 4 * l.length ∧
    ((l.filter (isFar far)).flatMap (fun r => bigB 8 r.2.1)).length = 8 * (l.filter (isFar far)).length ∧ (bodyT far l sum).length = 1052 + 28 * l.length + 8 * (l.filter (isFar far)).length := by
  have h1 := flat_size (f := fun c => bigB 4 (cnt l c)) (k := 4) (List.range 256) fun c _ => bigB_length _ _
  have h2 := flat_size (f := fun r : Rw => r.1) (k := 20) l h.raw
  have h3 := flat_size (f := fun r : Rw => bigB 4 r.2.2) (k := 4) l fun r _ => bigB_length _ _
  have h4 := flat_size (f := bigB 4) (k := 4) (nearV far 0 l) fun r _ => bigB_length _ _
  have h5 := flat_size (f := fun r : Rw => bigB 8 r.2.1) (k := 8) (l.filter (isFar far)) fun r _ => bigB_length _ _
  rw [List.length_range] at h1
  rw [nearV_len] at h4
  refine ⟨h1, h2, h3, h4, h5, ?_⟩
  unfold bodyT
  rw [List.length_append, List.length_append, List.length_append, List.length_append, List.length_append, List.length_append, h1, h2, h3, h4, h5, hs]
  show 8 + _ = _
  omega
/-- What bytes rows have says these rows. -/
theorem parse_text (h : Good l) (hs : sum.length = 20) (hD : ∀ x, (D x).length = 20) : parseE D (textT D far l sum) = .ok (l, sum) := by
  obtain ⟨h1, h2, h3, h4, h5, h6⟩ := body_parts (far := far) (sum := sum) h hs
  obtain ⟨F, hF⟩ : ∃ F, (List.range 256).flatMap (fun c => bigB 4 (cnt l c)) = F := ⟨_, rfl⟩
  obtain ⟨N, hN⟩ : ∃ N, l.flatMap (·.1) = N := ⟨_, rfl⟩
  obtain ⟨C, hC⟩ : ∃ C, l.flatMap (fun r => bigB 4 r.2.2) = C := ⟨_, rfl⟩
  obtain ⟨V, hV⟩ : ∃ V, (nearV far 0 l).flatMap (bigB 4) = V := ⟨_, rfl⟩
  obtain ⟨Q, hQ⟩ : ∃ Q, (l.filter (isFar far)).flatMap (fun r => bigB 8 r.2.1) = Q := ⟨_, rfl⟩
  rw [hF] at h1; rw [hN] at h2; rw [hC] at h3; rw [hV] at h4; rw [hQ] at h5
  obtain ⟨L, hL⟩ : ∃ L, textT D far l sum = L := ⟨_, rfl⟩
  have hbody : bodyT far l sum = magic ++ (F ++ (N ++ (C ++ (V ++ (Q ++ sum))))) := by unfold bodyT; rw [hF, hN, hC, hV, hQ]
  have hLb : L = bodyT far l sum ++ D (bodyT far l sum) := hL.symm
  have hLl : L.length = 1072 + 28 * l.length + 8 * (l.filter (isFar far)).length := by rw [hLb, List.length_append, h6, hD]; omega
  generalize hT : D (bodyT far l sum) = T at hLb
  have hTl : T.length = 20 := by rw [← hT]; exact hD _
  have hm8 : magic.length = 8 := rfl
  have eL : L = magic ++ (F ++ (N ++ (C ++ (V ++ (Q ++ (sum ++ T)))))) := by rw [hLb, hbody]; simp only [List.append_assoc]
  have sF : ∀ {j m}, j + m ≤ F.length → sl L (8 + j) m = sl F j m := fun hj => by rw [eL]; exact sl_mid magic F _ hj
  have sN : ∀ {j m}, j + m ≤ N.length → sl L (1032 + j) m = sl N j m := fun {j m} hj => by
    have := sl_mid (magic ++ F) N (C ++ (V ++ (Q ++ (sum ++ T)))) hj
    rw [List.length_append, hm8, h1, show 8 + 1024 + j = 1032 + j by omega] at this
    rw [eL, ← this, List.append_assoc]
  have sC : ∀ {j m}, j + m ≤ C.length → sl L (1032 + 20 * l.length + j) m = sl C j m := fun {j m} hj => by
    have := sl_mid (magic ++ (F ++ N)) C (V ++ (Q ++ (sum ++ T))) hj
    rw [List.length_append, List.length_append, hm8, h1, h2, show 8 + (1024 + 20 * l.length) + j = 1032 + 20 * l.length + j by omega] at this
    rw [eL, ← this, List.append_assoc, List.append_assoc]
  have sV : ∀ {j m}, j + m ≤ V.length → sl L (1032 + 24 * l.length + j) m = sl V j m := fun {j m} hj => by
    have := sl_mid (magic ++ (F ++ (N ++ C))) V (Q ++ (sum ++ T)) hj
    rw [List.length_append, List.length_append, List.length_append, hm8, h1, h2, h3, show 8 + (1024 + (20 * l.length + 4 * l.length)) + j = 1032 + 24 * l.length + j by omega] at this
    rw [eL, ← this, List.append_assoc, List.append_assoc, List.append_assoc]
  have sQ : ∀ {j m}, j + m ≤ Q.length → sl L (1032 + 28 * l.length + j) m = sl Q j m := fun {j m} hj => by
    have := sl_mid (magic ++ (F ++ (N ++ (C ++ V)))) Q (sum ++ T) hj
    rw [List.length_append, List.length_append, List.length_append, List.length_append, hm8, h1, h2, h3, h4, show 8 + (1024 + (20 * l.length + (4 * l.length + 4 * l.length))) + j = 1032 + 28 * l.length + j by omega] at this
    rw [eL, ← this, List.append_assoc, List.append_assoc, List.append_assoc, List.append_assoc]
  have hfan : ∀ i, i < 256 → fan L i = cnt l i := fun i hi => by
    unfold fan
    rw [sF (by omega), ← hF, sl_flat (k := 4) (List.range 256) i i (fun c _ => bigB_length _ _) (by rw [List.getElem?_range hi])]
    refine num8_bigB 4 _ ?_
    have h7 := cnt_le l i
    have h8 := h.few
    have : (256 : Nat) ^ 4 = 4294967296 := rfl
    omega
  have hn : fan L 255 = l.length := by rw [hfan 255 (by omega), cnt_all]
  have hfar : farL L l.length = Q := by
    unfold farL
    rw [show L.length - 40 - (1032 + 28 * l.length) = Q.length by omega]
    have := sQ (j := 0) (m := Q.length) (by omega)
    rw [Nat.add_zero] at this
    rw [this]; unfold sl; rw [List.drop_zero, List.take_length]
  have hraw : ∀ i r, l[i]? = some r → sl L (1032 + 20 * i) 20 = r.1 := fun i r hr => by
    have hi := (List.getElem?_eq_some_iff.1 hr).1
    rw [sN (by omega), ← hN, sl_flat (f := fun r : Rw => r.1) (k := 20) l i r h.raw hr]
  have hstep : ∀ i r, l[i]? = some r → stepE L l.length i = .ok r := fun i r hr => by
    have hi := (List.getElem?_eq_some_iff.1 hr).1
    have hrm : r ∈ l := List.mem_of_getElem? hr
    unfold stepE
    rw [hraw i r hr]
    have hc : hd0 r.1 < 256 := (r.1.headD 0).toNat_lt
    have e1 : fanB L (hd0 r.1 + 1) = cnt l (hd0 r.1) := by unfold fanB; rw [if_neg (by omega)]; exact hfan _ hc
    have e2 : fanB L (hd0 r.1) ≤ i := by
      unfold fanB
      split
      · exact Nat.zero_le _
      · rw [hfan _ (by omega)]; exact cnt_lo h hr (by omega)
    have hno : ¬ (0 < i ∧ ¬ sl L (1032 + 20 * i - 20) 20 < r.1) := fun hh => by
      refine hh.2 ?_
      have h0 := hh.1
      have hp : l[i - 1]? = some l[i - 1] := List.getElem?_eq_getElem (by omega)
      have := hraw (i - 1) _ hp
      rw [show 1032 + 20 * i - 20 = 1032 + 20 * (i - 1) by omega, this]
      have h7 := (List.pairwise_iff_getElem.1 h.rise) (i - 1) i (by omega) hi (by omega)
      rw [(List.getElem?_eq_some_iff.1 hr).2] at h7
      exact h7
    rw [if_neg hno, if_neg (by omega), if_neg (by rw [e1]; have := cnt_hi h hr; omega)]
    have hval : ∃ v, (nearV far 0 l)[i]? = some v ∧ v < 4294967296 ∧ placeE Q v = .ok r.2.1 := by
      obtain ⟨g1, g2⟩ := nearV_at far 0 l i r hr
      by_cases hf : isFar far r = true
      · obtain ⟨g3, g4⟩ := g1 hf
        have hk := (List.getElem?_eq_some_iff.1 g4).1
        have hk2 := List.length_filter_le (isFar far) l
        have := h.few
        refine ⟨_, g3, by omega, ?_⟩
        generalize ((l.take i).filter (isFar far)).length = k at g4 hk ⊢
        unfold placeE
        rw [if_neg (by omega), show 2147483648 + 0 + k - 2147483648 = k by omega, if_neg (by omega), ← hQ, sl_flat (k := 8) (l.filter (isFar far)) k r (fun r _ => bigB_length _ _) g4]
        rw [num8_bigB 8 _ (by have := h.place r hrm; have : (256 : Nat) ^ 8 = 18446744073709551616 := rfl; omega)]
      · have hf : isFar far r = false := by simpa using hf
        have := near_far hf
        refine ⟨_, g2 hf, by omega, ?_⟩
        unfold placeE
        rw [if_pos this]
    obtain ⟨v, hv, hvl, hp⟩ := hval
    have ev : num8 (sl L (1032 + 24 * l.length + 4 * i) 4) = v := by
      rw [sV (by omega), ← hV, sl_flat (k := 4) (nearV far 0 l) i v (fun c _ => bigB_length _ _) hv]
      exact num8_bigB 4 _ hvl
    have ec : num8 (sl L (1032 + 20 * l.length + 4 * i) 4) = r.2.2 := by
      rw [sC (by omega), ← hC, sl_flat (f := fun r : Rw => bigB 4 r.2.2) (k := 4) l i r (fun c _ => bigB_length _ _) hr]
      exact num8_bigB 4 _ (h.crc r hrm)
    rw [hfar, ev, hp, ec]
    simp only
    rw [if_neg (by have := h.place r hrm; omega)]
  have hrows : ∀ k i, i + k = l.length → rowsE L l.length i k = .ok (l.drop i) := by
    intro k
    induction k with
    | zero => intro i hik; rw [rowsE, List.drop_eq_nil_of_le (by omega)]
    | succ k ih =>
      intro i hik
      have hi : i < l.length := by omega
      rw [rowsE, hstep i l[i] (List.getElem?_eq_getElem hi), ih (i + 1) (by omega)]
      simp only
      rw [← List.drop_eq_getElem_cons hi]
  rw [hL]
  unfold parseE
  have hmag : L.take 8 = magic := by rw [eL, List.take_left' hm8]
  have hmono : ¬ ∃ i, i < 255 ∧ fan L (i + 1) < fan L i := fun ⟨i, hi, hlt⟩ => by
    rw [hfan _ (by omega), hfan _ (by omega)] at hlt
    have := cnt_mono l i
    omega
  rw [hn, if_neg (by omega), if_neg (fun hh => hh hmag), if_neg hmono, if_neg (by have := h.few; omega), if_neg (by omega), if_neg (by omega), hrows l.length 0 (by omega)]
  simp only
  have hbl : L.length - 20 = (bodyT far l sum).length := by omega
  rw [if_neg, List.drop_zero]
  · have : sl L (L.length - 40) 20 = sum := by
      have h7 := sl_mid (magic ++ (F ++ (N ++ (C ++ (V ++ Q))))) sum T (j := 0) (m := 20) (by omega)
      rw [List.length_append, List.length_append, List.length_append, List.length_append, List.length_append, hm8, h1, h2, h3, h4, h5, Nat.add_zero] at h7
      rw [show L.length - 40 = 8 + (1024 + (20 * l.length + (4 * l.length + (4 * l.length + 8 * (l.filter (isFar far)).length)))) by omega, eL]
      simp only [List.append_assoc] at h7
      rw [h7]; unfold sl; rw [List.drop_zero, List.take_of_length_le (by omega)]
    rw [this]
  · rw [hbl, hLb, List.take_left, List.drop_left, hT]
    exact fun hh => hh rfl
end
end PkM
