/- The law of beginnings walked. Conditions: texts are no longer than memory. -/
import Derived.Test.YtmihbbgojkbaeaaDoorSnapF
import Derived.Test.YtmihbbgojkbaeaaDoorVcOpen
set_option linter.unusedVariables false
namespace Go.Proofs.YtmihbbgojkbaeaaDoor
open Go Vc Go.Proofs

theorem strict_of {ys : List FileE} (hs : Rising ys) (hok : NewOK ys) : ys.Pairwise fun x y => x.path.data.toList < y.path.data.toList := by
  have key : ∀ d i : Nat, ∀ x y, ys[i]? = some x → ys[i + d + 1]? = some y → x.path.data.toList < y.path.data.toList := by
    intro d
    induction d with
    | zero =>
      intro i x y hx hy
      have h1 := (List.pairwise_iff_getElem.1 hs) i (i + 1) (List.getElem?_eq_some_iff.1 hx).1 (List.getElem?_eq_some_iff.1 hy).1 (by omega)
      rw [(List.getElem?_eq_some_iff.1 hx).2, show ys[i + 1]'((List.getElem?_eq_some_iff.1 hy).1) = y from (List.getElem?_eq_some_iff.1 hy).2] at h1
      have h2 := (hok.1 (i + 1) y hy).2 x (by omega) (by simpa using hx)
      rcases lt_tri x.path.data.toList y.path.data.toList with h3 | h3 | h3
      · exact h3
      · exact absurd (bs_ext h3) h2
      · exact absurd h3 h1
    | succ d ih =>
      intro i x y hx hy
      have hl := (List.getElem?_eq_some_iff.1 hy).1
      obtain ⟨z, hz⟩ : ∃ z, ys[i + d + 1]? = some z := ⟨_, List.getElem?_eq_getElem (by omega)⟩
      have h1 := ih i x z hx hz
      have hy' : ys[(i + d + 1) + 1]? = some y := hy
      have hs2 := (List.pairwise_iff_getElem.1 hs) (i + d + 1) (i + d + 1 + 1) (by omega) (by omega) (by omega)
      have h2 := (hok.1 (i + d + 1 + 1) y hy').2 z (by omega) hz
      rw [(List.getElem?_eq_some_iff.1 hz).2, (List.getElem?_eq_some_iff.1 hy').2] at hs2
      rcases lt_tri z.path.data.toList y.path.data.toList with h3 | h3 | h3
      · exact List.lt_trans h1 h3
      · exact absurd (bs_ext h3) h2
      · exact absurd h3 hs2
  rw [List.pairwise_iff_getElem]
  intro i j hi hj hij
  exact key (j - i - 1) i _ _ (List.getElem?_eq_getElem hi) (by rw [show i + (j - i - 1) + 1 = j by omega]; exact List.getElem?_eq_getElem hj)
theorem under_pair {ys : List FileE} (h : ys.Pairwise fun x y => x.path.data.toList < y.path.data.toList) (front : ByteArray) : (underE ys front).Pairwise fun x y => x.data.toList < y.data.toList := by
  unfold underE
  rw [List.pairwise_map]
  exact h.sublist List.filter_sublist
theorem under_more (ys : List FileE) (front more : ByteArray) : underE ys (front ++ more) = (underE ys front).filter fun p => begB p (front ++ more) := by
  unfold underE
  rw [List.filter_map, List.filter_filter]
  congr 1
  refine List.filter_congr fun x _ => ?_
  simp only [Function.comp]
  cases hb : begB x.path (front ++ more) with
  | false => simp
  | true =>
    have : begB x.path front = true := by
      have hb := of_decide_eq_true hb
      rw [bs_app] at hb
      exact decide_eq_true ((List.prefix_append _ _).trans hb)
    simp [this]
theorem under_all (ys : List FileE) : (underE ys ⟨#[]⟩).length = ys.length := by
  unfold underE
  rw [List.length_map, List.filter_eq_self.2]
  intro x _
  exact decide_eq_true List.nil_prefix
theorem files_of {W : World} {a : Option Addr} : ∀ (n : Nat), IsRows 2 (fun vs => ∃ x0 x1, vs = [.string x0, .string x1] ∧ x0.size ≤ reachBytes ∧ x1.size ≤ reachBytes) W a n → ∃ xs : List FileE, xs.length = n ∧ ReadsK encF 2 W a xs ∧ (∀ x ∈ xs, x.path.size ≤ reachBytes ∧ x.data.size ≤ reachBytes)
  | 0, _ => ⟨[], rfl, .nil _ _, fun x hx => by simp at hx⟩
  | n + 1, h => by
    obtain ⟨xs, hE, hR, hB⟩ := files_of n fun i hi => h i (by omega)
    obtain ⟨ad, vs, had, hl, ⟨x0, x1, rfl, h1, h2⟩, hc⟩ := h n (by omega)
    refine ⟨xs ++ [⟨x0, x1⟩], by rw [List.length_append, hE]; rfl, fun i x hx => ?_, fun x hx => ?_⟩
    · by_cases hi : i < xs.length
      · rw [List.getElem?_append_left hi] at hx
        exact hR i x hx
      · rw [List.getElem?_append_right (by omega)] at hx
        have hi0 : i - xs.length = 0 := by
          by_cases h : i - xs.length = 0
          · exact h
          · rw [List.getElem?_eq_none (by simp; omega)] at hx; cases hx
        rw [hi0] at hx
        simp only [List.getElem?_cons_zero, Option.some.injEq] at hx
        subst hx
        refine ⟨ad, had, fun j v hv => ?_⟩
        have := hc j v hv
        rw [add_add, show i = n by omega]
        exact this
    · rcases List.mem_append.1 hx with hx | hx
      · exact hB x hx
      · simp only [List.mem_cons, List.mem_nil_iff, or_false] at hx
        subst hx; exact ⟨h1, h2⟩
theorem total_small : ∀ (xs : List FileE), (∀ x ∈ xs, x.data.size ≤ 140737488355328) → totalF xs ≤ xs.length * 140737488355328
  | [], _ => Nat.le_refl _
  | x :: r, h => by
    have h1 := total_small r fun y hy => h y (by simp [hy])
    have h2 := h x (by simp)
    unfold totalF at h1 ⊢
    rw [List.map_cons, List.sum_cons, List.length_cons, Nat.succ_mul]; omega
/-- 'SnapBeginnings'. -/
theorem snapBeginnings_walk {a : Option Addr} {n c : Nat} {W : World} {xs : List FileE} (hr : ReadsK encF 2 W a xs) (hn : xs.length = n) (hc : n ≤ c) (hb : ∀ x ∈ xs, x.path.size ≤ reachBytes ∧ x.data.size ≤ reachBytes) (f m : ByteArray) (hf : f.size ≤ reachBytes) (hm : m.size ≤ reachBytes) :
    Calls Tryd.prog F_cartularylaw07_SnapBeginnings #[.slice a n c, .string f, .string m] W fun e w' => e = .returned (.bool true) ∧ RowKit.Below W.heap.size W w' := by
  refine vc_cartularylaw07_SnapBeginnings_ok (R := fun v w' => v = .bool true ∧ Fr (fun _ => False) W w') ?_ (fun v w' h => ⟨by rw [h.1], (h.2.mono fun _ _ h => h.elim : Fr (fun k => W.heap.size ≤ k) W w').below (Nat.le_refl _)⟩)
  have hml : reachBytes ≤ 140737488355328 := by decide
  refine (few07_spec hr hn hc 60 (by decide)).mono ?_
  rintro e w2 ⟨l3, rfl, ho2, hf2⟩
  have hsub : ∀ x ∈ xs.take 60, x.path.size ≤ 140737488355328 ∧ x.data.size ≤ 140737488355328 := fun x hx => by have := hb x (List.mem_of_mem_take hx); omega
  have hl60 : (xs.take 60).length ≤ 60 := by rw [List.length_take]; omega
  generalize xs.take 60 = zs at ho2 hsub hl60
  have hzl := ho2.1
  have htot := total_small zs fun x hx => (hsub x hx).2
  refine ⟨l3, rfl, (new_spec (ho2.reads fun _ => rfl) hzl (by omega) (by omega) (fun x hx => (hsub x hx).1) nilSort).mono ?_⟩
  rintro e w5 ⟨v, rfl, hf5, hR⟩
  have hf5' := hf2.trans' hf5
  rcases hR with ⟨rfl, _⟩ | ⟨_, _, ys, hp, hris, h⟩
  · refine ⟨_, _, rfl, fun _ => (awake07_spec w5).mono ?_, fun h => absurd h (by decide)⟩
    rintro e w9 ⟨rfl, hf9⟩
    exact ⟨_, rfl, fun _ => ⟨rfl, hf5'.trans' hf9⟩, fun h => (by cases h)⟩
  rcases h with ⟨_, rfl⟩ | ⟨hok, b, l, rfl, hbw, hS⟩
  · refine ⟨_, _, rfl, fun _ => (awake07_spec w5).mono ?_, fun h => absurd h (by decide)⟩
    rintro e w9 ⟨rfl, hf9⟩
    exact ⟨_, rfl, fun _ => ⟨rfl, hf5'.trans' hf9⟩, fun h => (by cases h)⟩
  refine ⟨_, _, rfl, fun h => absurd h (by decide), fun _ => ⟨fun h => (by cases h), fun _ => (under_spec hS hris f).mono ?_⟩⟩
  rintro e w15 ⟨l16, rfl, ho16, hf15⟩
  refine ⟨l16, rfl, by omega, (under_spec (hS.keep hf15) hris (f ++ m)).mono ?_⟩
  rintro e w18 ⟨l19, rfl, ho19, hf18⟩
  have hS18 := (hS.keep hf15).keep hf18
  have hf18' := (hf5'.trans' hf15).trans' hf18
  have hst := under_pair (strict_of hris hok) f
  have hmo := under_more ys f m
  have hpre : ∀ p ∈ underE ys f, begB p f = true := fun p hpm => by
    unfold underE at hpm
    obtain ⟨x, hx, rfl⟩ := List.mem_map.1 hpm
    exact (List.mem_filter.1 hx).2
  have hul : (underE ys f).length ≤ 60 := by
    have h1 := List.length_filter_le (fun x => begB x.path f) ys
    have h2 := hp.length_eq
    unfold underE
    rw [List.length_map]; omega
  have ha18 := ho16.keep hf18 (by simp)
  rw [hmo] at ho19
  generalize underE ys f = us at ho16 ha18 ho19 hst hpre hul
  have hla : l16.len = us.length := by rw [ho16.len]; simp [strV]
  have hlb : l19.len = (us.filter fun p => begB p (f ++ m)).length := by rw [ho19.len]; simp [strV]
  have hlb2 := List.length_filter_le (fun p => begB p (f ++ m)) us
  refine ⟨l19, rfl, fun k i w' => w' = w18 ∧ ∃ j : Nat, i = j ∧ j ≤ us.length ∧ k = (((us.take j).filter fun p => begB p (f ++ m)).length : Nat), fun _ i _ => us.length - i.toNat, ⟨rfl, 0, rfl, Nat.zero_le _, rfl⟩, ?_⟩
  rintro k i w24 ⟨hw, j, rfl, hj, rfl⟩
  replace hw := hw.symm
  subst hw
  have hkl := List.length_filter_le (fun p => begB p (f ++ m)) (us.take j)
  rw [List.length_take] at hkl
  have e1 : IntKind.i64.wrap ((j : Int) + 1) = ((j + 1 : Nat) : Int) := by rw [wrap_i64 (by omega) (by omega)]; omega
  have e3 : IntKind.i64.wrap ((((us.take j).filter fun p => begB p (f ++ m)).length : Int) + 1) = ((((us.take j).filter fun p => begB p (f ++ m)).length + 1 : Nat) : Int) := by rw [wrap_i64 (by omega) (by omega)]; omega
  rw [e1, e3]
  refine ⟨fun hlt => ?_, fun hge => ?_⟩
  · have hlt := of_decide_eq_true hlt
    have hjl : j < us.length := by omega
    have hx : us[j]? = some us[j] := List.getElem?_eq_getElem hjl
    generalize us[j] = p at hx
    have hpb := hpre p (List.mem_of_getElem? hx)
    have hple : f.size ≤ p.size := by
      have := (of_decide_eq_true hpb : f.data.toList <+: p.data.toList).length_le
      rw [bs_len, bs_len] at this; exact this
    obtain ⟨ad, had, hc0⟩ := ha18.reads j (.string p) (by simp [strV, hx])
    have htk : us.take (j + 1) = us.take j ++ [p] := by rw [List.take_add_one, hx]; rfl
    have hsp : us.filter (fun p => begB p (f ++ m)) = (us.take j).filter (fun p => begB p (f ++ m)) ++ ((if begB p (f ++ m) = true then [p] else []) ++ (us.drop (j + 1)).filter fun p => begB p (f ++ m)) := by
      conv => lhs; rw [show us = us.take j ++ ([p] ++ us.drop (j + 1)) by rw [← List.append_assoc, ← htk, List.take_append_drop]]
      rw [List.filter_append, List.filter_append]
      congr 2
      by_cases h : begB p (f ++ m) = true
      · rw [if_pos h]; simp [h]
      · rw [if_neg h]; simp [h]
    have hnext : ((us.take (j + 1)).filter fun p => begB p (f ++ m)).length = ((us.take j).filter fun p => begB p (f ++ m)).length + if begB p (f ++ m) = true then 1 else 0 := by
      rw [htk, List.filter_append, List.length_append]
      congr 1
      by_cases h : begB p (f ++ m) = true
      · rw [if_pos h]; simp [h]
      · rw [if_neg h]; simp [h]
    have hbB : (ByteArray.toList (p.extract 0 f.size) == ByteArray.toList f) = true := by rw [begB_cut hple]; exact hpb
    refine ⟨⟨by omega, by omega⟩, ad, had, p, by rw [Int.toNat_natCast, Nat.mul_one]; exact hc0, fun w' => w' = w18, ⟨fun h => absurd (of_decide_eq_true h) (by omega), fun _ => ⟨⟨by omega, by omega⟩, fun h => ?_, fun _ => ⟨fun h0 => ?_, fun _ => rfl⟩⟩⟩, ?_⟩
    · rw [Int.toNat_natCast, hbB] at h; cases h
    · have h0 := of_decide_eq_true h0
      have e2 : IntKind.i64.wrap ((j : Int) - 1) = ((j - 1 : Nat) : Int) := by rw [wrap_i64 (by omega) (by omega)]; omega
      rw [e2]
      have hy : us[j - 1]? = some us[j - 1] := List.getElem?_eq_getElem (by omega)
      have hlt2 := (List.pairwise_iff_getElem.1 hst) (j - 1) j (by omega) hjl (by omega)
      rw [(List.getElem?_eq_some_iff.1 hx).2] at hlt2
      generalize us[j - 1] = y at hy hlt2
      obtain ⟨ad2, had2, hc2⟩ := ha18.reads (j - 1) (.string y) (by simp [strV, hy])
      refine ⟨⟨by omega, by omega⟩, ad2, had2, y, by rw [Int.toNat_natCast, Nat.mul_one]; exact hc2, fun h => ?_, fun _ => rfl⟩
      exfalso
      rw [ByteArray.toList_eq, ByteArray.toList_eq, Proofs.bytesLess_eq, decide_eq_true hlt2] at h
      cases h
    · rintro w30 hw
      replace hw := hw.symm
      subst hw
      refine ⟨fun hkb => ?_, fun hkb => ⟨⟨rfl, j + 1, rfl, by omega, ?_⟩, by dsimp only; omega⟩⟩
      · have hkb := of_decide_eq_true hkb
        obtain ⟨q, hq⟩ : ∃ q, (us.filter fun p => begB p (f ++ m))[((us.take j).filter fun p => begB p (f ++ m)).length]? = some q := ⟨_, List.getElem?_eq_getElem (by omega)⟩
        obtain ⟨ad3, had3, hc3⟩ := ho19.reads _ (.string q) (by rw [strV, List.getElem?_map, hq]; rfl)
        refine ⟨⟨by omega, by omega⟩, ad3, had3, q, by rw [Int.toNat_natCast, Nat.mul_one]; exact hc3, fun he => ⟨⟨rfl, j + 1, rfl, by omega, ?_⟩, by dsimp only; omega⟩, fun he => ⟨⟨rfl, j + 1, rfl, by omega, ?_⟩, by dsimp only; omega⟩⟩
        · rw [bs_eq] at he
          have he := of_decide_eq_true he
          have : begB p (f ++ m) = true := by rw [← he]; exact (List.mem_filter.1 (List.mem_of_getElem? hq)).2
          rw [hnext, if_pos this]
        · rw [bs_eq] at he
          have he := of_decide_eq_false he
          have : ¬ begB p (f ++ m) = true := fun h => by
            rw [hsp, if_pos h, List.getElem?_append_right (Nat.le_refl _), Nat.sub_self] at hq
            exact he (Option.some.inj hq).symm
          rw [hnext, if_neg this, Nat.add_zero]
      · have hkb := of_decide_eq_false hkb
        have : ¬ begB p (f ++ m) = true := fun h => by
          have := congrArg List.length hsp
          rw [if_pos h] at this
          simp only [List.length_append, List.length_cons, List.length_nil] at this
          omega
        rw [hnext, if_neg this, Nat.add_zero]
  · have hge := of_decide_eq_false hge
    have hj' : j = us.length := by omega
    rw [hj', List.take_of_length_le (Nat.le_refl _)]
    refine (awake07_spec w18).mono ?_
    rintro e w34 ⟨rfl, hf34⟩
    refine ⟨_, rfl, fun _ => ⟨fun _ => (under_spec (hS18.keep hf34) hris ⟨#[]⟩).mono ?_, fun h => ?_⟩, fun h => (by cases h)⟩
    · rintro e w37 ⟨l38, rfl, ho38, hf37⟩
      have hS37 := (hS18.keep hf34).keep hf37
      refine ⟨l38, rfl, Calls.mono (R := fun e w' => e = .returned (.int .i64 (l.len : Int)) ∧ w' = w37) (vc_snap_Snap_Len_ok (R := fun v w' => v = .int .i64 (l.len : Int) ∧ w' = w37) ⟨l, hS37.files, rfl, rfl⟩ (fun v w' h => ⟨by rw [h.1], h.2⟩)) ?_⟩
      rintro e w40 ⟨rfl, rfl⟩
      have h1 : l38.len = l.len := by
        rw [ho38.len, ← hS37.len, ← under_all ys]; simp [strV]
      refine ⟨_, rfl, ?_, (hf18'.trans' hf34).trans' hf37⟩
      rw [h1, beq_self_eq_true]
    · rw [hlb] at h; simp at h
end Go.Proofs.YtmihbbgojkbaeaaDoor
