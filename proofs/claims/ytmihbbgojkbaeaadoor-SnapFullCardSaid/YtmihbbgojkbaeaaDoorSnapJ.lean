/- The law of turns: found walked, the order of the files shows nowhere. Conditions: texts are no longer than memory. -/
import Derived.Test.YtmihbbgojkbaeaaDoorSnapI
set_option linter.unusedVariables false
namespace Go.Proofs.YtmihbbgojkbaeaaDoor
open Go Vc Go.Proofs

theorem front_nil {f : ByteArray} (h : f = ⟨#[]⟩) : frontE f = ⟨#[]⟩ := by unfold frontE; rw [if_pos h]
theorem front_ne {f : ByteArray} (h : f ≠ ⟨#[]⟩) : frontE f = f ++ ⟨#[47]⟩ := by unfold frontE; rw [if_neg h]
theorem front_size (f : ByteArray) : (frontE f).size ≤ f.size + 1 := by
  unfold frontE
  split
  · show 0 ≤ _; omega
  · rw [ByteArray.size_append]; exact Nat.le_refl _
theorem ok_clean {ys : List FileE} (hok : NewOK ys) : ∀ y ∈ ys, cleanB y.path = true := fun y hy => by
  obtain ⟨i, hi⟩ := List.mem_iff_getElem?.1 hy
  exact (hok.1 i y hi).1
theorem under_mem {ys : List FileE} {f p : ByteArray} (h : p ∈ underE ys f) : begB p f = true ∧ ∃ y ∈ ys, y.path = p := by
  unfold underE at h
  obtain ⟨y, hy, rfl⟩ := List.mem_map.1 h
  exact ⟨(List.mem_filter.1 hy).2, y, (List.mem_filter.1 hy).1, rfl⟩
theorem byt_last {x : ByteArray} {a : List UInt8} {c : UInt8} (h : x.data.toList = a ++ [c]) : 0 < x.size ∧ byt x (x.size - 1) = c.toNat := by
  have hs : x.size = a.length + 1 := by rw [← bs_len, h, List.length_append]; rfl
  refine ⟨by omega, ?_⟩
  unfold byt
  rw [h, List.getElem?_append_right (by omega), show x.size - 1 - a.length = 0 by omega]; rfl
theorem get_ok {ys : List FileE} {p : ByteArray} (h : ∃ y ∈ ys, y.path = p) : (getE ys p).2 = 0 := by
  obtain ⟨y, hy, hp⟩ := h
  unfold getE
  cases hf : ys.find? (fun x => decide (x.path = p)) with
  | none => exact absurd (List.find?_eq_none.1 hf y hy) (by simp [hp])
  | some x => rfl
/-- A folder's name is a folder's of its own, or a file's. -/
theorem name_kinds {ys : List FileE} (hcl : ∀ y ∈ ys, cleanB y.path = true) (hst : ys.Pairwise fun x y => x.path.data.toList < y.path.data.toList) {f x : ByteArray} (hx : x ∈ namesE (frontE f) (underE ys (frontE f))) :
    0 < x.size ∧ ((byt x (x.size - 1) = 47 ∧ ∃ d : ByteArray, d.data.toList ++ [47] = (frontE f ++ x).data.toList ∧ cleanB d = true ∧ frontE d = frontE f ++ x ∧ f.size < d.size ∧ cntE (frontE f) (underE ys (frontE f)) x = (underE ys (frontE d)).length ∧ underE ys (frontE d) ≠ []) ∨
      (byt x (x.size - 1) ≠ 47 ∧ cntE (frontE f) (underE ys (frontE f)) x = 1 ∧ ∃ y ∈ ys, y.path = frontE f ++ x)) := by
  have hrise : RiseB (underE ys (frontE f)) := under_pair hst _
  have hbeg : ∀ p ∈ underE ys (frontE f), begB p (frontE f) = true := fun p hp => (under_mem hp).1
  obtain ⟨p, hp, hpx⟩ := ((names_rise (frontE f) _ _ rfl hrise hbeg).2 x).1 hx
  obtain ⟨b, hb, hb'⟩ := begB_split (hbeg p hp)
  obtain ⟨y, hy, hyp⟩ := (under_mem hp).2
  have hpc : cleanB p = true := by rw [← hyp]; exact hcl y hy
  have hxl : x.data.toList = hdL b := by rw [← hpx, nameE_L, hb']
  rcases hdL_cases b with ⟨h1, h2⟩ | ⟨a, c, h1, h2, h3⟩
  · rw [h2] at hxl
    have hpe : p = frontE f ++ x := bs_ext (by rw [hb, bs_app, hxl])
    have hbn : b ≠ [] := fun e => by
      rw [e, List.append_nil] at hb
      by_cases hf : f = ⟨#[]⟩
      · rw [front_nil hf] at hb; exact (clean_ne hpc).1 hb
      · rw [front_ne hf, bs_app] at hb; exact (clean_ne hpc).2 _ hb
    obtain ⟨r, z, hz⟩ : ∃ r z, b = r ++ [z] := by
      rcases List.eq_nil_or_concat b with h | ⟨r, z, h⟩
      · exact absurd h hbn
      · exact ⟨r, z, by rw [h, List.concat_eq_append]⟩
    obtain ⟨hl1, hl2⟩ := byt_last (hxl.trans hz)
    refine ⟨hl1, .inr ⟨fun e => ?_, ?_, y, hy, hyp.trans hpe⟩⟩
    · rw [hl2] at e
      exact h1 (by rw [hz, show z = 47 from UInt8.toNat_inj.1 e]; simp)
    · have hall : ∀ q ∈ (underE ys (frontE f)).filter (fun q => decide (nameE (frontE f) q = x)), q = p := fun q hq => by
        obtain ⟨hq1, hq2⟩ := List.mem_filter.1 hq
        have hq2 := of_decide_eq_true hq2
        obtain ⟨b2, hb2, hb2'⟩ := begB_split (hbeg q hq1)
        have : x.data.toList = hdL b2 := by rw [← hq2, nameE_L, hb2']
        rw [hxl] at this
        rcases hdL_cases b2 with ⟨h5, h6⟩ | ⟨a', c', h5, h6, h7⟩
        · rw [h6] at this
          exact bs_ext (by rw [hb2, hb, this])
        · rw [h7] at this
          exact absurd (show (47 : UInt8) ∈ b by rw [this]; simp) h1
      have hpw : RiseB ((underE ys (frontE f)).filter (fun q => decide (nameE (frontE f) q = x))) := hrise.sublist List.filter_sublist
      have hmem : p ∈ (underE ys (frontE f)).filter (fun q => decide (nameE (frontE f) q = x)) := List.mem_filter.2 ⟨hp, decide_eq_true hpx⟩
      unfold cntE
      generalize (underE ys (frontE f)).filter (fun q => decide (nameE (frontE f) q = x)) = L at hall hpw hmem
      match L, hall, hpw, hmem with
      | [_], _, _, _ => rfl
      | q :: r :: s, hall, hpw, _ =>
        have h5 := hall q (by simp)
        have h6 := hall r (by simp)
        have := (List.pairwise_cons.1 hpw).1 r (by simp)
        rw [h5, h6] at this
        exact absurd this (List.lt_irrefl _)
  · rw [h3] at hxl
    obtain ⟨hl1, hl2⟩ := byt_last hxl
    have hd : (⟨((frontE f).data.toList ++ a).toArray⟩ : ByteArray).data.toList = (frontE f).data.toList ++ a := bs_mk _
    generalize (⟨((frontE f).data.toList ++ a).toArray⟩ : ByteArray) = d at hd
    have hdc : cleanB d = true := clean_front (p := p) (v := c) hpc (by rw [hb, h1, hd, List.append_assoc])
    have hdne : d ≠ ⟨#[]⟩ := fun e => (clean_ne hdc).1 (by rw [e])
    have hfd : frontE d = frontE f ++ x := by
      rw [front_ne hdne]
      refine bs_ext ?_
      rw [bs_app, bs_app, hd, hxl, List.append_assoc]
    have hcnt : (underE ys (frontE f)).filter (fun q => decide (nameE (frontE f) q = x)) = underE ys (frontE d) := by
      rw [hfd, under_more]
      refine List.filter_congr fun q hq => ?_
      obtain ⟨b2, hb2, hb2'⟩ := begB_split (hbeg q hq)
      refine decide_eq_decide.2 ⟨fun h => ?_, fun h => ?_⟩
      · have : x.data.toList = hdL b2 := by rw [← h, nameE_L, hb2']
        rw [bs_app, hb2, List.prefix_append_right_inj, this]
        rcases hdL_cases b2 with ⟨h5, h6⟩ | ⟨a', c', h5, h6, h7⟩
        · rw [h6]; exact List.prefix_refl _
        · rw [h7]
          conv => rhs; rw [h5]
          exact ⟨c', by rw [List.append_assoc]; rfl⟩
      · rw [bs_app, hb2, List.prefix_append_right_inj, hxl] at h
        obtain ⟨t, ht⟩ := h
        refine bs_ext ?_
        rw [nameE_L, hb2', ← ht, hxl, List.append_assoc]
        exact hdL_at a t h2
    refine ⟨hl1, .inl ⟨hl2, d, ?_, hdc, hfd, ?_, by unfold cntE; rw [hcnt], fun e => ?_⟩⟩
    · rw [bs_app, hd, hxl, List.append_assoc]
    · by_cases hf : f = ⟨#[]⟩
      · rw [hf]
        show 0 < d.size
        rcases Nat.eq_zero_or_pos d.size with h | h
        · exact absurd (bs_empty.2 h) hdne
        · exact h
      · have := congrArg List.length hd
        rw [List.length_append, bs_len, bs_len, front_ne hf, ByteArray.size_append] at this
        have h1 : (ByteArray.mk #[47]).size = 1 := rfl
        omega
    · rw [← hcnt] at e
      have : p ∈ (underE ys (frontE f)).filter (fun q => decide (nameE (frontE f) q = x)) := List.mem_filter.2 ⟨hp, decide_eq_true hpx⟩
      rw [e] at this; simp at this
theorem found_spec {ys : List FileE} (hok : NewOK ys) (hris : Rising ys) (hsm : ys.length ≤ 60) : ∀ (g : Nat) (f : ByteArray) (w : World) (b1 b2 : Nat) (l1 l2 : Sl) (s1 s2 : Int), IsSnap w b1 l1 ys s1 → IsSnap w b2 l2 ys s2 → (f = ⟨#[]⟩ ∨ (cleanB f = true ∧ underE ys (frontE f) ≠ [])) → 201 ≤ f.size + g →
    Calls Tryd.prog F_cartularylaw07_found #[.pointer (some ⟨b1, 0, none⟩), .pointer (some ⟨b2, 0, none⟩), .string f] w fun e w' => e = .returned (.int .i64 ((underE ys (frontE f)).length : Nat)) ∧ Fr (fun _ => False) w w' := by
  have hst := strict_of hris hok
  have hcl := ok_clean hok
  have hsz : ∀ x ∈ ys, x.path.size ≤ 140737488355328 := fun x hx => by
    have := (clean_parts (hcl x hx)).1; omega
  intro g
  induction g with
  | zero =>
    intro f w b1 b2 l1 l2 s1 s2 hS hT hF hg
    exfalso
    rcases hF with rfl | ⟨hc, _⟩
    · revert hg; show 201 ≤ 0 + 0 → False; omega
    · have := (clean_parts hc).1; omega
  | succ g ih =>
    intro f w b1 b2 l1 l2 s1 s2 hS hT hF hg
    have hfs : f.size ≤ 200 := by
      rcases hF with rfl | ⟨hc, _⟩
      · show 0 ≤ 200; omega
      · exact (clean_parts hc).1
    refine vc_cartularylaw07_found_ok (R := fun v w' => v = .int .i64 ((underE ys (frontE f)).length : Nat) ∧ Fr (fun _ => False) w w') ?_ (fun v w' h => ⟨by rw [h.1], h.2⟩)
    have hrise : RiseB (underE ys (frontE f)) := under_pair hst _
    have hbeg : ∀ p ∈ underE ys (frontE f), begB p (frontE f) = true := fun p hp => (under_mem hp).1
    obtain ⟨hnr, hnm⟩ := names_rise (frontE f) _ _ rfl hrise hbeg
    have hcnt := cnt_all (frontE f) hnr (underE ys (frontE f)) fun p hp => (hnm _).2 ⟨p, hp, rfl⟩
    have hle : listE ys f = (namesE (frontE f) (underE ys (frontE f)), 0) := by
      unfold listE
      rw [if_neg, if_neg]
      · rintro ⟨h1, h2⟩
        rcases hF with h | ⟨_, h⟩
        · exact h2 h
        · obtain ⟨p, r, hp⟩ := List.exists_cons_of_ne_nil h
          have := (hnm (nameE (frontE f) p)).2 ⟨p, by rw [hp]; simp, rfl⟩
          rw [h1] at this; simp at this
      · rintro ⟨h1, h2⟩
        rcases hF with h | ⟨h, _⟩
        · exact h1 h
        · rw [h2] at h; cases h
    have hul : (underE ys (frontE f)).length ≤ 60 := by
      have h1 := List.length_filter_le (fun x => begB x.path (frontE f)) ys
      unfold underE
      rw [List.length_map]; omega
    have hnl := namesE_len (frontE f) (underE ys (frontE f))
    have hkind : ∀ x ∈ namesE (frontE f) (underE ys (frontE f)), _ := fun x hx => name_kinds hcl hst hx
    have hL := fun {w : World} {b : Nat} {l : Sl} {s : Int} (h : IsSnap w b l ys s) => list_spec h hris hsz f (by omega)
    rw [hle] at hL
    generalize underE ys (frontE f) = us at hcnt hul hnl hkind hL
    generalize hns : namesE (frontE f) us = ns at hcnt hnl hkind hL
    clear hle hrise hbeg hnr hnm hns
    refine (hL hS).mono ?_
    rintro e w2 ⟨l3, rfl, ho3, hf2⟩
    refine ⟨l3, 0, rfl, (hL (hT.keep hf2)).mono ?_⟩
    rintro e w6 ⟨l7, rfl, ho7, hf6⟩
    have hl3 : l3.len = ns.length := by rw [ho3.len]; simp [strV]
    have hl7 : l7.len = ns.length := by rw [ho7.len]; simp [strV]
    refine ⟨l7, 0, rfl, fun h => absurd h (by decide), fun _ => ⟨fun h => ?_, fun _ => ?_⟩⟩
    · rw [hl3, hl7] at h; simp at h
    have hf6' := hf2.trans' hf6
    have ho3 := ho3.keep hf6 (by simp)
    refine ⟨fun n k w' => ∃ j : Nat, k = j ∧ j ≤ ns.length ∧ n = (((ns.take j).map (cntE (frontE f) us)).sum : Nat) ∧ Fr (fun _ => False) w6 w', fun _ k _ => ns.length - k.toNat, ⟨0, rfl, Nat.zero_le _, rfl, .refl _ _⟩, ?_⟩
    rintro n k w13 ⟨j, rfl, hj, rfl, hf13⟩
    have hle : ∀ j, ((ns.take j).map (cntE (frontE f) us)).sum ≤ us.length := fun j => by
      have h : (ns.map (cntE (frontE f) us)).sum = ((ns.take j).map (cntE (frontE f) us)).sum + ((ns.drop j).map (cntE (frontE f) us)).sum := by
        rw [← List.sum_append, ← List.map_append, List.take_append_drop]
      omega
    have hlej := hle j
    have e1 : IntKind.i64.wrap ((j : Int) + 1) = ((j + 1 : Nat) : Int) := by rw [wrap_i64 (by omega) (by omega)]; omega
    rw [e1]
    refine ⟨fun hlt => ?_, fun hge => ?_⟩
    · have hlt := of_decide_eq_true hlt
      have hjl : j < ns.length := by omega
      have hx : ns[j]? = some ns[j] := List.getElem?_eq_getElem hjl
      generalize ns[j] = x at hx
      obtain ⟨hx0, hk⟩ := hkind x (List.mem_of_getElem? hx)
      obtain ⟨a, ha, hc⟩ := (ho3.keep hf13 (by simp)).reads j (.string x) (by simp [strV, hx])
      obtain ⟨a', ha', hc'⟩ := (ho7.keep hf13 (by simp)).reads j (.string x) (by simp [strV, hx])
      have hnext : ((ns.take (j + 1)).map (cntE (frontE f) us)).sum = ((ns.take j).map (cntE (frontE f) us)).sum + cntE (frontE f) us x := by
        rw [List.take_add_one, hx, List.map_append, List.sum_append]; simp
      have hlej1 := hle (j + 1)
      refine ⟨⟨by omega, by omega⟩, a, ha, x, by rw [Int.toNat_natCast, Nat.mul_one]; exact hc, ⟨by omega, by omega⟩, a', ha', x, by rw [Int.toNat_natCast, Nat.mul_one]; exact hc', fun h => ?_, fun _ => ⟨fun h => ?_, fun _ => ?_⟩⟩
      · simp at h
      · rw [bs_eq] at h
        have h := of_decide_eq_true h
        rw [h] at hx0; exact absurd hx0 (by decide)
      have hxs : x.size ≤ 200 ∨ True := .inr trivial
      have hpath : (frontE f ++ x).size ≤ 201 := by
        rcases hk with ⟨_, d, h1, h2, _⟩ | ⟨_, _, y, hy, h⟩
        · have := congrArg List.length h1
          rw [List.length_append, bs_len, bs_len] at this
          have := (clean_parts h2).1
          simp at *; omega
        · rw [← h]; have := (clean_parts (hcl y hy)).1; omega
      refine ⟨fun s w' => s = frontE f ++ x ∧ w' = w13, ⟨fun h => ?_, fun h => ?_⟩, ?_⟩
      · rw [bs_eq] at h
        have h : f ≠ ⟨#[]⟩ := by simpa using h
        rw [front_ne h] at hpath ⊢
        rw [ByteArray.size_append] at hpath
        exact ⟨by rw [show (ByteArray.mk #[47]).size = 1 from rfl]; omega, Nat.le_trans hpath (by decide), rfl, rfl⟩
      · rw [bs_eq] at h
        have h : f = ⟨#[]⟩ := by simpa using h
        rw [front_nil h]
        exact ⟨bs_ext (by rw [bs_app]; rfl), rfl⟩
      rintro s w20 ⟨rfl, hw⟩
      replace hw := hw.symm
      subst hw
      have hxs : x.size ≤ 201 := by rw [ByteArray.size_append] at hpath; omega
      have e2 : IntKind.i64.wrap ((x.size : Int) - 1) = ((x.size - 1 : Nat) : Int) := by rw [wrap_i64 (by omega) (by omega)]; omega
      rw [e2, byteAt_nat]
      have hS13 := hS.keep (hf6'.trans' hf13)
      have hT13 := hT.keep (hf6'.trans' hf13)
      refine ⟨⟨by omega, by omega⟩, fun hb => ?_, fun hb => ?_⟩
      · rcases hk with ⟨h, _⟩ | ⟨_, hcn, hy⟩
        · rw [h] at hb; exact absurd hb (by decide)
        refine (get_spec hS13 hris (frontE f ++ x)).mono ?_
        rintro e w22 ⟨rfl, hf22⟩
        refine ⟨_, _, rfl, (get_spec (hT13.keep hf22) hris (frontE f ++ x)).mono ?_⟩
        rintro e w26 ⟨rfl, hf26⟩
        rw [get_ok hy]
        refine ⟨_, _, rfl, fun h => absurd h (by decide), fun _ => ⟨fun h => absurd h (by decide), fun _ => ⟨fun h => ?_, fun _ => ⟨⟨j + 1, rfl, by omega, ?_, (hf13.trans' hf22).trans' hf26⟩, by dsimp only; omega⟩⟩⟩⟩
        · simp at h
        · rw [hnext, hcn, wrap_i64 (by omega) (by omega)]; simp
      · rcases hk with ⟨_, d, hd1, hd2, hd3, hd4, hd5, hd6⟩ | ⟨h, _⟩
        · have e3 : IntKind.i64.wrap (((frontE f ++ x).size : Int) - 1) = ((d.size : Nat) : Int) := by
            have := congrArg List.length hd1
            rw [List.length_append, bs_len, bs_len] at this
            rw [wrap_i64 (by omega) (by omega), ← this]; simp
          have hds : d.size + 1 = (frontE f ++ x).size := by
            have := congrArg List.length hd1
            rw [List.length_append, bs_len, bs_len] at this
            exact this
          have hex : (frontE f ++ x).extract 0 d.size = d := bs_ext (by
            rw [bs_head, ← hd1, List.take_left' (by rw [bs_len])])
          rw [e3]
          refine ⟨⟨by omega, by omega⟩, ?_⟩
          rw [Int.toNat_natCast, hex]
          refine (ih d w13 b1 b2 l1 l2 s1 s2 hS13 hT13 (.inr ⟨hd2, hd6⟩) (by omega)).mono ?_
          rintro e w30 ⟨rfl, hf30⟩
          rw [← hd5]
          refine ⟨_, rfl, fun h => ?_, fun _ => ⟨⟨j + 1, rfl, by omega, ?_, hf13.trans' hf30⟩, by dsimp only; omega⟩⟩
          · have := of_decide_eq_true h; omega
          · rw [hnext, wrap_i64 (by omega) (by omega)]; simp
        · exfalso
          have : ((byt x (x.size - 1) : Nat) : Int) ≠ 47 := by omega
          simp [this] at hb
    · have hge := of_decide_eq_false hge
      have hj' : j = ns.length := by omega
      rw [hj', List.take_of_length_le (Nat.le_refl _), hcnt]
      exact ⟨rfl, hf6'.trans' hf13⟩
end Go.Proofs.YtmihbbgojkbaeaaDoor
