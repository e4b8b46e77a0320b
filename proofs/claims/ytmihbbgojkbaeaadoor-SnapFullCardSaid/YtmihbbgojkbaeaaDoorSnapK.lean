/- The law of turns walked. Conditions: texts are no longer than memory. -/
import Derived.Test.YtmihbbgojkbaeaaDoorSnapJ
set_option linter.unusedVariables false
namespace Go.Proofs.YtmihbbgojkbaeaaDoor
open Go Vc Go.Proofs

theorem perm_eq {ys zs : List FileE} (hp : ys.Perm zs) (h1 : ys.Pairwise fun x y => x.path.data.toList < y.path.data.toList) (h2 : Rising zs) : ys = zs := by
  have inj : ∀ (ys : List FileE), (ys.Pairwise fun x y => x.path.data.toList < y.path.data.toList) → ∀ a ∈ ys, ∀ b ∈ ys, a.path.data.toList = b.path.data.toList → a = b := by
    intro ys h
    induction ys with
    | nil => intro a ha; simp at ha
    | cons y r ih =>
      obtain ⟨h3, h4⟩ := List.pairwise_cons.1 h
      intro a ha b hb he
      rcases List.mem_cons.1 ha with rfl | ha
      · rcases List.mem_cons.1 hb with rfl | hb
        · rfl
        · have := h3 b hb
          rw [he] at this; exact absurd this (List.lt_irrefl _)
      · rcases List.mem_cons.1 hb with hb | hb
        · have := h3 a ha
          rw [he, hb] at this; exact absurd this (List.lt_irrefl _)
        · exact ih h4 a ha b hb he
  refine List.Perm.eq_of_pairwise (le := fun x y : FileE => ¬ y.path.data.toList < x.path.data.toList) ?_ (h1.imp fun h => List.lt_asymm h) h2 hp
  intro a b ha hb h3 h4
  refine inj ys h1 a ha b (hp.symm.subset hb) ?_
  rcases lt_tri a.path.data.toList b.path.data.toList with h | h | h
  · exact absurd h h4
  · exact h
  · exact absurd h h3
theorem newOK_perm {ys zs : List FileE} (hp : ys.Perm zs) (h1 : Rising ys) (h2 : Rising zs) (hok : NewOK ys) : ys = zs := perm_eq hp (strict_of h1 hok) h2
theorem totalF_perm {xs ys : List FileE} (h : xs.Perm ys) : totalF xs = totalF ys := (h.map _).sum_nat
theorem size_spec {w : World} {b : Nat} {l : Sl} {xs : List FileE} {size : Int} (h : IsSnap w b l xs size) : Calls Tryd.prog F_snap_Snap_Size #[.pointer (some ⟨b, 0, none⟩)] w fun e w' => e = .returned (.int .i64 size) ∧ w' = w :=
  vc_snap_Snap_Size_ok (R := fun v w' => v = .int .i64 size ∧ w' = w) ⟨size, h.size, rfl, rfl⟩ (fun v w' h => ⟨by rw [h.1], h.2⟩)
theorem len_spec {w : World} {b : Nat} {l : Sl} {xs : List FileE} {size : Int} (h : IsSnap w b l xs size) : Calls Tryd.prog F_snap_Snap_Len #[.pointer (some ⟨b, 0, none⟩)] w fun e w' => e = .returned (.int .i64 (xs.length : Nat)) ∧ w' = w :=
  vc_snap_Snap_Len_ok (R := fun v w' => v = .int .i64 (xs.length : Nat) ∧ w' = w) ⟨l, h.files, by rw [h.len], rfl⟩ (fun v w' h => ⟨by rw [h.1], h.2⟩)
/-- 'SnapTurns'. -/
theorem snapTurns_walk {a : Option Addr} {n c : Nat} {W : World} {xs : List FileE} (hr : ReadsK encF 2 W a xs) (hn : xs.length = n) (hc : n ≤ c) (hb : ∀ x ∈ xs, x.path.size ≤ reachBytes ∧ x.data.size ≤ reachBytes) :
    Calls Tryd.prog F_cartularylaw07_SnapTurns #[.slice a n c] W fun e w' => e = .returned (.bool true) ∧ RowKit.Below W.heap.size W w' := by
  refine vc_cartularylaw07_SnapTurns_ok (R := fun v w' => v = .bool true ∧ Fr (fun _ => False) W w') ?_ (fun v w' h => ⟨by rw [h.1], (h.2.mono fun _ _ h => h.elim : Fr (fun k => W.heap.size ≤ k) W w').below (Nat.le_refl _)⟩)
  have hml : reachBytes ≤ 140737488355328 := by decide
  refine (few07_spec hr hn hc 60 (by decide)).mono ?_
  rintro e w2 ⟨l3, rfl, ho2, hf2⟩
  have hsub : ∀ x ∈ xs.take 60, x.path.size ≤ 140737488355328 ∧ x.data.size ≤ 140737488355328 := fun x hx => by have := hb x (List.mem_of_mem_take hx); omega
  have hl60 : (xs.take 60).length ≤ 60 := by rw [List.length_take]; omega
  generalize xs.take 60 = zs at ho2 hsub hl60
  have hzl : zs.length = l3.len := ho2.1
  have htot := total_small zs fun x hx => (hsub x hx).2
  refine ⟨l3, rfl, fun w4 h4 => ?_⟩
  have ho4 : OwnK encF 2 w4 w2.heap.size T_api_File ⟨some ⟨w2.heap.size, 0, none⟩, 0, 0⟩ [] := by rw [h4]; exact .empty w2 T_api_File
  have hf4 : Fr (fun _ => False) w2 w4 := by rw [h4]; exact .alloc _ _ _
  clear h4
  have e0 : IntKind.i64.wrap ((l3.len : Int) - 1) = (zs.length : Int) - 1 := by rw [wrap_i64 (by omega) (by omega)]; omega
  rw [e0]
  refine ⟨fun l k w' => ∃ j : Nat, k = (j : Int) - 1 ∧ j ≤ zs.length ∧ OwnK encF 2 w' w2.heap.size T_api_File l (zs.drop j).reverse ∧ Fr (fun _ => False) w2 w', fun _ k _ => (k + 1).toNat, ⟨zs.length, rfl, Nat.le_refl _, by rw [List.drop_length]; exact ho4, hf4⟩, ?_⟩
  rintro l7 k w9 ⟨j, rfl, hj, ho9, hf9⟩
  refine ⟨fun hge => ?_, fun hlt => ?_⟩
  · have hge := of_decide_eq_true hge
    obtain ⟨i, rfl⟩ : ∃ i, j = i + 1 := ⟨j - 1, by omega⟩
    have hx : zs[i]? = some zs[i] := List.getElem?_eq_getElem (by omega)
    have hdr : (zs.drop i).reverse = (zs.drop (i + 1)).reverse ++ [zs[i]] := by
      rw [List.drop_eq_getElem_cons (by omega), List.reverse_cons]
    generalize zs[i] = x at hx hdr
    obtain ⟨ad, had, hload⟩ := ((ho2.keep hf9 (by simp)).reads fun _ => rfl).load elF hx
    have e1 : ((i + 1 : Nat) : Int) - 1 = (i : Nat) := by omega
    rw [e1]
    have e2 : IntKind.i64.wrap ((i : Int) - 1) = (i : Int) - 1 := wrap_i64 (by omega) (by omega)
    rw [e2]
    refine ⟨⟨by omega, by omega⟩, ad, had, x.path, x.data, by rw [Int.toNat_natCast]; exact hload, fun w13 h13 => ?_⟩
    have hdl : (zs.drop (i + 1)).reverse.length ≤ 60 := by rw [List.length_reverse, List.length_drop]; omega
    obtain ⟨w14, l15, hr14, ho14, hf14, _⟩ := append_oneK elF ho9 (x := x) (by simp only [maxLen] at hdl ⊢; omega) (by omega) hf9.size h13
    refine ⟨w14, l15, hr14, ⟨i, rfl, by omega, by rw [hdr]; exact ho14, hf9.trans hf14 fun q hq ⟨z, hz, e⟩ => by have := (ho9.blk hz).1; omega⟩, by dsimp only; omega⟩
  have hlt := of_decide_eq_false hlt
  have hj0 : j = 0 := by omega
  subst hj0
  rw [List.drop_zero] at ho9
  have hzr : zs.reverse.length = l7.len := ho9.1
  rw [List.length_reverse] at hzr
  have hf9' := hf2.trans' hf9
  refine (new_spec ((ho2.keep hf9 (by simp)).reads fun _ => rfl) hzl (by omega) (by omega) (fun x hx => (hsub x hx).1) nilSort).mono ?_
  rintro e w17 ⟨v, rfl, hf17, hR⟩
  have hpr : zs.reverse.Perm zs := List.reverse_perm zs
  have htr : totalF zs.reverse = totalF zs := totalF_perm hpr
  have second := (new_spec (c := l7.cap) ((ho9.keep hf17 (by simp)).reads fun _ => rfl) ho9.1 (by omega) (by omega) (fun x hx => (hsub x (List.mem_reverse.1 hx)).1) nilSort)
  have hf17' := hf9'.trans' hf17
  have aw : ∀ {w21 : World}, Fr (fun _ => False) W w21 → Calls Tryd.prog F_cartularylaw07_awake #[] w21 fun e24 w25 => ∃ b26, e24 = .returned (.bool b26) ∧ (Value.bool b26 = .bool true ∧ Fr (fun _ => False) W w25) := fun hf => (awake07_spec _).mono fun e w' ⟨h1, h2⟩ => ⟨true, h1, rfl, hf.trans' h2⟩
  rcases hR with ⟨rfl, hbig⟩ | ⟨hs1, hs2, ys, hp, hris, h⟩
  · refine ⟨_, _, rfl, second.mono ?_⟩
    rintro e w21 ⟨v, rfl, hf21, hR⟩
    rcases hR with ⟨rfl, _⟩ | ⟨hs1, hs2, _⟩
    · exact ⟨_, _, rfl, fun h => absurd h (by decide), fun _ => ⟨fun _ => aw (hf17'.trans' hf21), fun h => absurd h (by decide)⟩⟩
    · rw [htr, List.length_reverse] at *; omega
  rcases h with ⟨hno, rfl⟩ | ⟨hok, b, l, rfl, hbw, hS⟩
  · refine ⟨_, _, rfl, second.mono ?_⟩
    rintro e w21 ⟨v, rfl, hf21, hR⟩
    rcases hR with ⟨_, h⟩ | ⟨_, _, ys2, hp2, hris2, h⟩
    · rw [htr, List.length_reverse] at h; omega
    rcases h with ⟨_, rfl⟩ | ⟨hok2, _⟩
    · exact ⟨_, _, rfl, fun h => absurd h (by decide), fun _ => ⟨fun _ => aw (hf17'.trans' hf21), fun h => absurd h (by decide)⟩⟩
    · have := newOK_perm ((hp2.trans hpr).trans hp.symm) hris2 hris hok2
      rw [this] at hok2; exact absurd hok2 hno
  · refine ⟨_, _, rfl, second.mono ?_⟩
    rintro e w21 ⟨v, rfl, hf21, hR⟩
    rcases hR with ⟨_, h⟩ | ⟨_, _, ys2, hp2, hris2, h⟩
    · rw [htr, List.length_reverse] at h; omega
    have hye := newOK_perm (hp.trans (hpr.symm.trans hp2.symm)) hris hris2 hok
    subst hye
    rcases h with ⟨hno, _⟩ | ⟨_, b2, l2, rfl, hbw2, hS2⟩
    · exact absurd hok hno
    have hS21 := hS.keep hf21
    have hyl : ys.length = zs.length := hp.length_eq
    refine ⟨_, _, rfl, fun h => absurd h (by decide), fun _ => ⟨fun h => absurd h (by decide), fun _ => ⟨fun h => (by cases h), fun _ => ⟨fun h => (by cases h), fun _ => ?_⟩⟩⟩⟩
    refine (found_spec hok hris (by omega) 201 ⟨#[]⟩ w21 b b2 l l2 _ _ hS21 hS2 (.inl rfl) (Nat.le_add_left _ _)).mono ?_
    rintro e w28 ⟨rfl, hf28⟩
    rw [front_nil rfl, under_all]
    refine ⟨_, rfl, (awake07_spec w28).mono ?_⟩
    rintro e w31 ⟨rfl, hf31⟩
    refine ⟨_, rfl, fun _ => ⟨fun _ => (size_spec ((hS21.keep hf28).keep hf31)).mono ?_, fun h => ?_⟩, fun h => (by cases h)⟩
    · rintro e w34 ⟨rfl, hw⟩
      replace hw := hw.symm
      subst hw
      refine ⟨_, rfl, (size_spec ((hS2.keep hf28).keep hf31)).mono ?_⟩
      rintro e w37 ⟨rfl, hw⟩
      replace hw := hw.symm
      subst hw
      refine ⟨_, rfl, ?_, ((hf17'.trans' hf21).trans' hf28).trans' hf31⟩
      rw [htr, beq_self_eq_true]
    · rw [hyl, hzl] at h; simp at h
end Go.Proofs.YtmihbbgojkbaeaaDoor
