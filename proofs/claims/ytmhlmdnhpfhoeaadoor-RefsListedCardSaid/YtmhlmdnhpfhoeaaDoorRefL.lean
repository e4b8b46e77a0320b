/- The law of listed references. Conditions: as named. -/
import Derived.Test.YtmhlmdnhpfhoeaaDoorRefST
import Derived.Test.YtmhlmdnhpfhoeaaDoorRefAw
import Derived.Test.YtmhlmdnhpfhoeaaDoorShortS
import Derived.Test.YtmhlmdnhpfhoeaaDoorLaw16B
set_option linter.unusedVariables false
namespace Go.Proofs.YtmhlmdnhpfhoeaaDoor
open Go Vc HexM Go.Proofs

theorem total_of (k : Nat) : ∀ xs : List FileE, (∀ x ∈ xs, x.data.size ≤ k) → totalF xs ≤ k * xs.length
  | [], _ => Nat.zero_le _
  | x :: r, h => by
    have h1 := total_of k r fun y hy => h y (.tail _ hy)
    have h2 := h x (.head _)
    unfold totalF at h1 ⊢
    rw [List.map_cons, List.sum_cons, List.length_cons, Nat.mul_succ]; omega
theorem shortF_facts {xs : List FileE} {m N : Nat} (hb : ∀ x ∈ xs, x.path.size ≤ N ∧ x.data.size ≤ N) : (shortF xs m).length ≤ m ∧ (∀ x ∈ shortF xs m, x.path.size ≤ N) ∧ (∀ x ∈ shortF xs m, x.data.size ≤ 3000) := by
  unfold shortF
  refine ⟨by rw [List.length_map, List.length_take]; omega, fun x hx => ?_, fun x hx => ?_⟩
  · obtain ⟨y, hy, rfl⟩ := List.mem_map.1 hx
    exact (hb y (List.mem_of_mem_take hy)).1
  · obtain ⟨y, hy, rfl⟩ := List.mem_map.1 hx
    exact (fewB_size y.data 3000).1
theorem begB_ext (s t : ByteArray) (h : t.size ≤ s.size) : ((s.extract 0 t.size).toList == t.toList) = begB s t := by
  rw [bs_eq]
  refine decide_eq_decide.2 ⟨fun e => ?_, fun e => ?_⟩
  · have : t.data.toList = s.data.toList.take t.size := by rw [← bs_head, e]
    rw [this]; exact List.take_prefix _ _
  · refine bs_ext ?_
    rw [bs_head, ← bs_len t]
    exact (List.prefix_iff_eq_take.1 e).symm
theorem listed_walk {a : Option Addr} {n c : Nat} {W : World} {xs : List FileE} (hr : ReadsK encF 2 W a xs) (hn : xs.length = n) (hc : n ≤ c) (hb : ∀ x ∈ xs, x.path.size ≤ reachBytes ∧ x.data.size ≤ reachBytes) (f : ByteArray) (hf : f.size ≤ reachBytes) (hml : MaxL W) :
    Calls Tryd.prog F_cartularylaw16_RefsListed #[.slice a n c, .string f] W fun e w' => e = .returned (.bool true) ∧ RowKit.Below W.heap.size W w' := by
  refine vc_cartularylaw16_RefsListed_ok (R := fun v w' => v = .bool true ∧ Fr (fun _ => False) W w') ?_ (fun v w' h => ⟨by rw [h.1], (h.2.mono fun _ _ h => h.elim : Fr (fun k => W.heap.size ≤ k) W w').below (Nat.le_refl _)⟩)
  have hrb : reachBytes ≤ 140737488355328 := by decide
  obtain ⟨hl40, hpz, hdz⟩ := shortF_facts (m := 40) hb
  refine (short13_spec hr hn hc 40 (by decide)).mono ?_
  rintro e w2 ⟨l3, rfl, ho2, hf2⟩
  generalize shortF xs 40 = zs at ho2 hl40 hpz hdz
  have hzl := ho2.1
  have htot := total_of 3000 zs hdz
  refine ⟨l3, rfl, (new_spec (ho2.reads fun _ => rfl) hzl (by omega) (by omega) (fun x hx => by have := hpz x hx; omega) nilSort).mono ?_⟩
  rintro e w5 ⟨v, rfl, hf5, hR⟩
  have hf5' := hf2.trans' hf5
  rcases hR with ⟨rfl, _⟩ | ⟨_, _, ys, hp, hris, h⟩
  · refine ⟨_, _, rfl, fun _ => (awake16_spec (hml.keep hf5')).mono ?_, fun h => absurd h (by decide)⟩
    rintro e w9 ⟨rfl, hf9⟩
    exact ⟨_, rfl, fun _ => ⟨rfl, hf5'.trans' hf9⟩, fun h => (by cases h)⟩
  rcases h with ⟨_, rfl⟩ | ⟨hok, b, l, rfl, hbw, hS⟩
  · refine ⟨_, _, rfl, fun _ => (awake16_spec (hml.keep hf5')).mono ?_, fun h => absurd h (by decide)⟩
    rintro e w9 ⟨rfl, hf9⟩
    exact ⟨_, rfl, fun _ => ⟨rfl, hf5'.trans' hf9⟩, fun h => (by cases h)⟩
  have hyl : ys.length ≤ 40 := by have := hp.length_eq; omega
  have hyp : ∀ x ∈ ys, x.path.size ≤ 140737488355328 := fun x hx => by have := hpz x (hp.subset hx); omega
  have hyd : ∀ x ∈ ys, x.data.size ≤ 140737488355328 := fun x hx => by have := hdz x (hp.subset hx); omega
  refine ⟨_, _, rfl, fun h => absurd h (by decide), fun _ => ⟨fun h => (by cases h), fun _ => (open_spec (hml.keep hf5') hS hris hyd).mono ?_⟩⟩
  rintro e w15 ⟨hf15, hO⟩
  have hF15 := hf5'.trans' hf15
  cases hE : openE ys with
  | error m =>
    rw [hE] at hO
    subst hO
    have hne := openE_err hE
    have hb : (m != 0) = true := by simpa using hne
    refine ⟨_, _, rfl, fun _ => (awake16_spec (hml.keep hF15)).mono ?_, fun h => by rw [hb] at h; cases h⟩
    rintro e w19 ⟨rfl, hf19⟩
    exact ⟨_, rfl, fun _ => ⟨by rw [hb], hF15.trans' hf19⟩, fun h => (by cases h)⟩
  | ok rows =>
    rw [hE] at hO
    obtain ⟨rb, mb, rfl, hrb1, hrb2, hI⟩ := hO
    have hrok := openE_ok hE
    have hS15 := hS.keep hf15
    refine ⟨_, _, rfl, fun h => absurd h (by decide), fun _ => ⟨fun h => (by cases h), fun _ => (names_spec (hml.keep hF15) hI hS15 hris hyp (by have := hrok.few; omega) (by omega) ⟨#[]⟩).mono ?_⟩⟩
    rintro e w25 ⟨l26, rfl, ho26, hf25⟩
    have hF25 := hF15.trans' hf25
    have hI25 := hI.keep hf25
    have hS25 := hS15.keep hf25
    have hnl : (namesE ys rows ⟨#[]⟩).length ≤ 2040 := by
      unfold namesE
      have h1 := putAll_len (namesU ys rows ⟨#[]⟩) []
      have h2 : (namesU ys rows ⟨#[]⟩).length ≤ 2040 := by
        unfold namesU
        rw [List.length_append]
        have h3 := List.length_filter_le (fun p => nameB p && begB p ⟨#[]⟩) (underE ys sRefs)
        have h4 := List.length_filter_le (fun p => begB p ⟨#[]⟩) (RKeys rows)
        have h5 : (underE ys sRefs).length ≤ ys.length := by unfold underE; rw [List.length_map]; exact List.length_filter_le _ _
        have h6 := hrok.few
        rw [rkeys_len] at h4
        omega
      simp only [List.length_nil] at h1
      omega
    have hall : ∀ p ∈ namesE ys rows ⟨#[]⟩, nameB p = true ∧ p ≠ sHEAD := fun p hpm => names_all hrok hpm
    have hrise := (namesE_rise ys rows ⟨#[]⟩).1
    have hfr := namesE_front ys rows f
    generalize namesE ys rows ⟨#[]⟩ = us at ho26 hnl hall hrise hfr
    have hul : l26.len = us.length := by rw [ho26.len]; simp [strV]
    have hur := ho26.reads
    refine ⟨l26, rfl, fun q i w' => ∃ k : Nat, i = k ∧ k ≤ us.length ∧ q = (((us.take k).filter fun p => begB p f).length : Nat) ∧ Fr (fun _ => False) w25 w', fun _ i _ => us.length - i.toNat, ⟨0, rfl, Nat.zero_le _, rfl, .refl _ _⟩, ?_⟩
    rintro q i w31 ⟨k, rfl, hk, rfl, hf31⟩
    have e1 : IntKind.i64.wrap ((k : Int) + 1) = ((k + 1 : Nat) : Int) := by rw [wrap_i64 (by omega) (by omega)]; omega
    have hF31 := hF25.trans' hf31
    have hcl : ((us.take k).filter fun p => begB p f).length ≤ k := Nat.le_trans (List.length_filter_le _ _) (by rw [List.length_take]; omega)
    have e2 : IntKind.i64.wrap ((((us.take k).filter fun p => begB p f).length : Int) + 1) = ((((us.take k).filter fun p => begB p f).length + 1 : Nat) : Int) := by rw [wrap_i64 (by omega) (by omega)]; omega
    rw [e1, e2]
    refine ⟨fun hlt => ?_, fun hge => ?_⟩
    · have hlt := of_decide_eq_true hlt
      have hkl : k < us.length := by omega
      have hx : us[k]? = some us[k] := List.getElem?_eq_getElem hkl
      have hxm : us[k] ∈ us := List.getElem_mem hkl
      have hlast : 0 < k → ∃ y, us[k - 1]? = some y ∧ y.data.toList < us[k].data.toList := fun h0 => ⟨us[k - 1], List.getElem?_eq_getElem (by omega), (List.pairwise_iff_getElem.1 hrise) (k - 1) k (by omega) hkl (by omega)⟩
      generalize us[k] = x at hx hxm hlast
      obtain ⟨hxn, hxh⟩ := hall x hxm
      have htk : us.take (k + 1) = us.take k ++ [x] := by rw [List.take_add_one, hx]; rfl
      obtain ⟨ad, had, hcx⟩ := hur k (.string x) (by simp [strV, hx])
      have hxz : x.size ≤ 140737488355328 := by
        unfold nameB at hxn
        rw [decide_eq_false hxh, Bool.false_or] at hxn
        simp only [Bool.and_eq_true] at hxn
        have := (clean_partsN hxn.1.1.1.1.1.2).1
        omega
      refine ⟨⟨by omega, by omega⟩, ad, had, x, by rw [Int.toNat_natCast, Nat.mul_one]; exact hf31.cell hcx (by simp), (lookup_spec (hml.keep hF31) (hI25.keep hf31) (hS25.keep hf31) hris hyd x hxz).mono ?_⟩
      rintro e w35 ⟨rfl, hf35⟩
      have hF35 := hF31.trans' hf35
      have hform : (lookE ys rows x).2 ≠ 4 := by
        unfold lookE
        rw [if_neg (by rw [hxn]; decide)]
        exact lookF_form ys rows 5 x
      have hb4 : ((lookE ys rows x).2 == 4) = false := by simpa using hform
      refine ⟨_, _, rfl, fun w' => Fr (fun _ => False) w31 w', (name_spec x hxz (hml.keep hF35)).mono ?_, ?_⟩
      · rintro e w40 ⟨rfl, hf40⟩
        have hf40' := hf35.trans' hf40
        rw [hxn, bs_eq]
        have hprev : ∀ w43, Fr (fun _ => False) w31 w43 → (decide ((k : Int) > 0) = true → (0 ≤ IntKind.i64.wrap ((k : Int) - 1) ∧ IntKind.i64.wrap ((k : Int) - 1) < (l26.len : Int)) ∧ ∃ a45 : Addr, l26.a = some a45 ∧ ∃ s46 : ByteArray, w43.cell? (a45.add ((IntKind.i64.wrap ((k : Int) - 1)).toNat * 1)) = some (.string s46) ∧
            (((!Op.bytesLess s46.toList x.toList) = true → (Value.bool false = .bool true ∧ Fr (fun _ => False) W w43)) ∧ ((!Op.bytesLess s46.toList x.toList) = false → Fr (fun _ => False) w31 w43))) := fun w43 hf43 h0 => by
          have h0 : 0 < k := by have := of_decide_eq_true h0; omega
          have e3 : IntKind.i64.wrap ((k : Int) - 1) = ((k - 1 : Nat) : Int) := by rw [wrap_i64 (by omega) (by omega)]; omega
          rw [e3]
          obtain ⟨y, hy, hyx⟩ := hlast h0
          obtain ⟨ad', had', hcy⟩ := hur (k - 1) (.string y) (by simp [strV, hy])
          refine ⟨⟨by omega, by omega⟩, ad', had', y, by rw [Int.toNat_natCast, Nat.mul_one]; exact (hf31.trans' hf43).cell hcy (by simp), fun h => ?_, fun _ => hf43⟩
          rw [ByteArray.toList_eq, ByteArray.toList_eq, Proofs.bytesLess_eq, decide_eq_true hyx] at h
          cases h
        refine ⟨true, rfl, fun h => (by cases h), fun _ => ⟨fun h => absurd (show x = sHEAD from of_decide_eq_true h) hxh, fun _ => ⟨fun h7 => (peeled_spec ((hI25.keep hf31).keep hf40') ((hS25.keep hf31).keep hf40') hris x).mono ?_, fun h7 => ⟨fun h => (by rw [hb4] at h; cases h), fun _ => ⟨hprev w40 hf40', fun _ => hf40'⟩⟩⟩⟩⟩
        rintro e w43 ⟨rfl, hf43⟩
        have hf43' := hf40'.trans' hf43
        have hpe : peelE ys rows x = ⟨#[]⟩ := by
          refine Classical.byContradiction fun hne => ?_
          have := peel_look hxn hne
          rw [this] at h7
          cases h7
        refine ⟨_, rfl, fun h => ?_, fun _ => ⟨fun h => (by rw [hb4] at h; cases h), fun _ => ⟨hprev w43 hf43', fun _ => hf43'⟩⟩⟩
        rw [hpe, bs_eq, decide_eq_true rfl] at h
        cases h
      · intro w49 hf49
        have hF49 := hf31.trans' hf49
        refine ⟨fun hge => ⟨⟨by omega, by have := of_decide_eq_true hge; omega⟩, fun hq => ?_, fun hq => ?_⟩, fun hlt2 => ?_⟩
        · rw [Int.toNat_natCast, begB_ext x f (by have := of_decide_eq_true hge; omega)] at hq
          refine ⟨⟨k + 1, rfl, by omega, ?_, hF49⟩, by dsimp only; omega⟩
          rw [htk, List.filter_append, List.filter_cons_of_pos (p := fun p => begB p f) hq, List.filter_nil, List.length_append]; rfl
        · rw [Int.toNat_natCast, begB_ext x f (by have := of_decide_eq_true hge; omega)] at hq
          refine ⟨⟨k + 1, rfl, by omega, ?_, hF49⟩, by dsimp only; omega⟩
          rw [htk, List.filter_append, List.filter_cons_of_neg (p := fun p => begB p f) (by rw [hq]; decide), List.filter_nil, List.append_nil]
        · have hq : begB x f = false := begB_short (by have := of_decide_eq_false hlt2; omega)
          refine ⟨⟨k + 1, rfl, by omega, ?_, hF49⟩, by dsimp only; omega⟩
          rw [htk, List.filter_append, List.filter_cons_of_neg (p := fun p => begB p f) (by rw [hq]; decide), List.filter_nil, List.append_nil]
    · have hge := of_decide_eq_false hge
      have hk' : k = us.length := by omega
      rw [hk', List.take_length]
      refine (awake16_spec (hml.keep hF31)).mono ?_
      rintro e w51 ⟨rfl, hf51⟩
      have hf51' := hf31.trans' hf51
      refine ⟨_, rfl, fun _ => (names_spec (hml.keep (hF25.trans' hf51')) (hI25.keep hf51') (hS25.keep hf51') hris hyp (by have := hrok.few; omega) (by omega) f).mono ?_, fun h => by cases h⟩
      rintro e w54 ⟨l55, rfl, ho55, hf54⟩
      rw [hfr] at ho55
      refine ⟨l55, rfl, ?_, (hF25.trans' hf51').trans' hf54⟩
      have : l55.len = (us.filter fun p => begB p f).length := by rw [ho55.len]; simp [strV]
      rw [this, beq_self_eq_true]
end Go.Proofs.YtmhlmdnhpfhoeaaDoor
