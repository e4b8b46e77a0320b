/- The reference's List and Check. Conditions: texts are no longer than memory, lists of at most a million; List: of paths that are paths. -/
import Derived.Test.YtmihbbgojkbaeaaDoorSnapL
set_option linter.unusedVariables false
namespace Go.Proofs.YtmihbbgojkbaeaaDoor
open Go Vc Go.Proofs

/-- A path's first part and its name. -/
theorem parts_head (l : List UInt8) : ∃ (a : List UInt8) (t : List (List UInt8)), partsL l = a :: t ∧ a.length ≤ l.length ∧ (if a.length < l.length then a ++ [47] else a) = hdL l := by
  rcases hdL_cases l with ⟨h1, h2⟩ | ⟨a, b, h1, h2, h3⟩
  · exact ⟨l, [], partsL_plain l h1, Nat.le_refl _, by rw [if_neg (Nat.lt_irrefl _), h2]⟩
  · refine ⟨a, partsL b, by rw [h1, partsL_cut a b h2], by rw [h1]; simp, ?_⟩
    rw [h3, if_pos (by rw [h1]; simp)]
theorem rlist_spec {w : World} {a : Option Addr} {n c : Nat} {xs ys : List FileE} (hr : ReadsK encF 2 w a xs) (hn : xs.length = n) (hl : n ≤ 1000000) (hp : ys.Perm xs) (hst : ys.Pairwise fun x y => x.path.data.toList < y.path.data.toList) (hsz : ∀ x ∈ ys, x.path.size ≤ 200) (folder : ByteArray) (hfs : folder.size ≤ 140737488355328) : Calls Tryd.prog F_cartularyref07_List #[.slice a n c, .string folder] w fun e w' =>
    ∃ o, e = .returned (.tuple #[.slice o.a o.len o.cap, .int .i64 (listE ys folder).2]) ∧ Vc.Own w' w.heap.size T_string o (strV (listE ys folder).1) ∧ Fr (fun _ => False) w w' := by
  refine vc_cartularyref07_List_ok (R := fun v w' => ∃ o : Sl, v = .tuple #[.slice o.a o.len o.cap, .int .i64 (listE ys folder).2] ∧ Vc.Own w' w.heap.size T_string o (strV (listE ys folder).1) ∧ Fr (fun _ => False) w w') ?_ (fun v w' ⟨o, h⟩ => ⟨o, by rw [h.1], h.2⟩)
  have hne : ∀ {b : Bool}, (!(ByteArray.toList folder == ByteArray.toList ⟨#[]⟩)) = b → decide (folder ≠ ⟨#[]⟩) = b := fun h => by rw [bs_eq] at h; rw [← h]; simp
  refine ⟨fun s w' => s = frontE folder ∧ ¬ (folder ≠ ⟨#[]⟩ ∧ cleanB folder = false) ∧ Fr (fun _ => False) w w', ⟨fun hb => ?_, fun hb => ⟨?_, fun h => ?_, .refl _ _⟩⟩, ?_⟩
  · have hb := of_decide_eq_true (hne hb)
    refine (rclean_spec folder hfs w).mono ?_
    rintro e w3 ⟨rfl, hf3⟩
    refine ⟨_, rfl, fun hc => ⟨⟨none, 0, 0⟩, ?_⟩, fun hc => ⟨by rw [show (ByteArray.mk #[47]).size = 1 from rfl]; omega, ?_, fun h => ?_, hf3⟩⟩
    · have hc : cleanB folder = false := by simpa using hc
      unfold listE
      rw [if_pos ⟨hb, hc⟩]
      exact ⟨rfl, Vc.Own.nil _ _ _, hf3⟩
    · unfold frontE; rw [if_neg hb]
    · rw [h.2] at hc; cases hc
  · have hb := of_decide_eq_false (hne hb)
    unfold frontE; rw [if_pos (Decidable.not_not.1 hb)]
  · exact of_decide_eq_false (hne hb) h.1
  rintro s w6 ⟨rfl, hok, hf6⟩
  have hle : listE ys folder = if namesE (frontE folder) (underE ys (frontE folder)) = [] ∧ folder ≠ ⟨#[]⟩ then ([], 7) else (namesE (frontE folder) (underE ys (frontE folder)), 0) := by
    unfold listE; rw [if_neg hok]
  have hus : ∀ p ∈ underE ys (frontE folder), p.size ≤ 200 ∧ (frontE folder).size ≤ p.size := fun p hpm => by
    obtain ⟨h1, y, hy, h2⟩ := under_mem hpm
    refine ⟨by rw [← h2]; exact hsz y hy, ?_⟩
    have := (of_decide_eq_true h1 : (frontE folder).data.toList <+: p.data.toList).length_le
    rw [bs_len, bs_len] at this; exact this
  have hul : (underE ys (frontE folder)).length ≤ 1000000 := by
    have h1 := List.length_filter_le (fun x => begB x.path (frontE folder)) ys
    have h2 := hp.length_eq
    unfold underE
    rw [List.length_map]; omega
  intro w7 h7
  have hf7 : Fr (fun _ => False) w6 w7 := by rw [h7]; exact .alloc _ _ _
  have ho7 : Vc.Own w7 w6.heap.size T_string ⟨some ⟨w6.heap.size, 0, none⟩, 0, 0⟩ (strV []) := by rw [h7]; exact own_lit w6 _
  clear h7
  refine (runder_spec (hr.keep (hf6.trans' hf7) (by simp)) hn hl (frontE folder)).mono ?_
  rintro e w9 ⟨l10, rfl, ho10, hf9⟩
  rw [rUnder_under hp hst] at ho10
  generalize underE ys (frontE folder) = us at hle hus hul ho10
  have hl10 : l10.len = us.length := by rw [ho10.len]; simp [strV]
  have hlt6 : w6.heap.size < w7.heap.size := by
    have := (ho7.blk rfl).2; exact this
  have hlt9 := hf9.size
  have hne10 : ∀ x, l10.a = some x → x.block ≠ w6.heap.size := fun x hx => by have := (ho10.blk hx).1; omega
  refine ⟨l10, rfl, fun o i w' => ∃ k : Nat, i = k ∧ k ≤ us.length ∧ Vc.Own w' w6.heap.size T_string o (strV (namesE (frontE folder) (us.take k))) ∧ Fr (fun _ => False) w6 w' ∧ Fr (· = w6.heap.size) w9 w' ∧ (∀ x, o.a = some x → x.block = w6.heap.size ∨ w9.heap.size ≤ x.block), fun _ i _ => us.length - i.toNat,
    ⟨0, rfl, Nat.zero_le _, ho7.keep hf9 (by simp), hf7.trans' hf9, .refl _ _, fun x hx => by cases hx; exact .inl rfl⟩, ?_⟩
  clear ho7
  rintro o i w15 ⟨k, rfl, hk, ho, hf, hg, hbl⟩
  have e1 : IntKind.i64.wrap ((k : Int) + 1) = ((k + 1 : Nat) : Int) := by rw [wrap_i64 (by omega) (by omega)]; omega
  rw [e1]
  have hol : o.len = (namesE (frontE folder) (us.take k)).length := by rw [ho.len]; simp [strV]
  have hnl := namesE_len (frontE folder) (us.take k)
  rw [List.length_take] at hnl
  refine ⟨fun hlt => ?_, fun hge => ?_⟩
  · have hlt := of_decide_eq_true hlt
    have hkl : k < us.length := by omega
    have hx : us[k]? = some us[k] := List.getElem?_eq_getElem hkl
    generalize us[k] = p at hx
    obtain ⟨hps, hfp⟩ := hus p (List.mem_of_getElem? hx)
    obtain ⟨ad, had, hc⟩ := (ho10.keep hg hne10).reads k (.string p) (by simp [strV, hx])
    have htk : us.take (k + 1) = us.take k ++ [p] := by rw [List.take_add_one, hx]; rfl
    refine ⟨⟨by omega, by omega⟩, ad, had, p, by rw [Int.toNat_natCast, Nat.mul_one]; exact hc, ⟨by omega, by omega⟩, ?_⟩
    rw [Int.toNat_natCast]
    have hxl : (p.extract (frontE folder).size p.size).data.toList = p.data.toList.drop (frontE folder).size := bs_tail _ _
    have hnm := nameE_L (frontE folder) p
    rw [← hxl] at hnm
    have hxs : (p.extract (frontE folder).size p.size).size ≤ 200 := by simp; omega
    generalize p.extract (frontE folder).size p.size = rest at hnm hxs
    refine (rparts_spec rest (by omega) w15).mono ?_
    rintro e w19 ⟨l20, rfl, ho20, hf20⟩
    obtain ⟨a, t, hp1, hp2, hp3⟩ := parts_head rest.data.toList
    rw [hp1] at ho20
    have hl20 : l20.len = (bsm (a :: t)).length := by rw [ho20.len]; simp [strV]
    have hl20' : 0 < l20.len := by rw [hl20]; simp [bsm]
    obtain ⟨ad2, had2, hc2⟩ := ho20.reads 0 (.string ⟨a.toArray⟩) rfl
    rw [bs_len] at hp2 hp3
    have has : (ByteArray.mk a.toArray).size = a.length := bs_mksize a
    refine ⟨l20, rfl, ⟨Int.le_refl _, by omega⟩, ad2, had2, ⟨a.toArray⟩, hc2, fun s w' => s = nameE (frontE folder) p ∧ w' = w19, ⟨fun hb => ⟨by rw [has, show (ByteArray.mk #[47]).size = 1 from rfl]; omega, ?_, rfl⟩, fun hb => ⟨?_, rfl⟩⟩, ?_⟩
    · have hb := of_decide_eq_true hb
      rw [has] at hb
      rw [if_pos (by omega)] at hp3
      exact bs_ext (by rw [bs_app, hnm, ← hp3, bs_mk])
    · have hb := of_decide_eq_false hb
      rw [has] at hb
      rw [if_neg (by omega)] at hp3
      exact bs_ext (by rw [hnm, ← hp3, bs_mk])
    rintro s w25 ⟨rfl, hw⟩
    replace hw := hw.symm
    subst hw
    have ho19 := ho.keep hf20 (by simp)
    have hf19 := hf.trans' hf20
    have hg19 : Fr (· = w6.heap.size) w9 w19 := hg.trans hf20 fun q hq h => h.elim
    have add : namesE (frontE folder) (us.take (k + 1)) = namesE (frontE folder) (us.take k) ++ [nameE (frontE folder) p] → ∀ w25, w25 = w19.alloc (.cells #[.string (nameE (frontE folder) p)] 9) →
        ∃ (w26 : World) (l27 : Sl), (Builtin.append_ #[57, 57] 57 #[.slice o.a o.len o.cap, .slice (some ⟨w19.heap.size, 0, none⟩) 1 1]).run Tryd.prog w25 = .ok (.slice l27.a l27.len l27.cap) w26 ∧
          (∃ k' : Nat, ((k + 1 : Nat) : Int) = k' ∧ k' ≤ us.length ∧ Vc.Own w26 w6.heap.size T_string l27 (strV (namesE (frontE folder) (us.take k'))) ∧ Fr (fun _ => False) w6 w26 ∧ Fr (· = w6.heap.size) w9 w26 ∧ (∀ x, l27.a = some x → x.block = w6.heap.size ∨ w9.heap.size ≤ x.block)) := fun he w25 h25 => by
      obtain ⟨w26, l27, hr26, ho26, hf26, hsi⟩ := append_one' elString ho19 (v := .string (nameE (frontE folder) p)) rfl (by simp only [strV, List.length_map, maxLen]; omega) (by simp only [strV, List.length_map]; omega) hf19.size h25
      refine ⟨w26, l27, hr26, k + 1, rfl, by omega, ?_, ?_, hg19.trans hf26 fun q hq ⟨z, hz, e⟩ => ?_, fun x hx => ?_⟩
      · rw [he]; simpa [strV] using ho26
      · exact hf19.trans hf26 fun q hq ⟨z, hz, e⟩ => by have := (ho19.blk hz).1; omega
      · rcases hbl z hz with h | h
        · omega
        · omega
      · rcases hsi x hx with ⟨y, hy, hb⟩ | h
        · rw [← hb]; exact hbl y hy
        · have := hg19.size
          exact .inr (by omega)
    refine ⟨fun h0 w25 h25 => ?_, fun h0 => ?_⟩
    · have h0 : o.len = 0 := by simpa using h0
      have hnil : namesE (frontE folder) (us.take k) = [] := List.length_eq_zero_iff.1 (by omega)
      obtain ⟨w26, l27, hr26, hi⟩ := add (by rw [htk, namesE_snoc, hnil]; rfl) w25 h25
      exact ⟨w26, l27, hr26, hi, by dsimp only; omega⟩
    · have h0 : o.len ≠ 0 := fun e => by rw [e] at h0; simp at h0
      have e2 : IntKind.i64.wrap ((o.len : Int) - 1) = ((o.len - 1 : Nat) : Int) := by rw [wrap_i64 (by omega) (by omega)]; omega
      rw [e2]
      obtain ⟨last, hlast⟩ : ∃ x, (namesE (frontE folder) (us.take k))[o.len - 1]? = some x := ⟨_, List.getElem?_eq_getElem (by omega)⟩
      have hgl : (namesE (frontE folder) (us.take k)).getLast? = some last := by rw [List.getLast?_eq_getElem?, ← hol]; exact hlast
      obtain ⟨ad3, had3, hc3⟩ := ho19.reads (o.len - 1) (.string last) (by simp [strV, hlast])
      refine ⟨⟨by omega, by omega⟩, ad3, had3, last, by rw [Int.toNat_natCast, Nat.mul_one]; exact hc3, fun hd w30 h30 => ?_, fun hd => ⟨⟨k + 1, rfl, by omega, ?_, hf19, hg19, hbl⟩, by dsimp only; omega⟩⟩
      · have hd : last ≠ nameE (frontE folder) p := by rw [bs_eq] at hd; simpa using hd
        obtain ⟨w31, l32, hr31, hi⟩ := add (by rw [htk, namesE_snoc]; unfold putName; rw [hgl, if_neg (fun e => hd (Option.some.inj e))]) w30 h30
        exact ⟨w31, l32, hr31, hi, by dsimp only; omega⟩
      · have hd : last = nameE (frontE folder) p := by rw [bs_eq] at hd; simpa using hd
        rw [htk, namesE_snoc]
        unfold putName
        rw [hgl, if_pos (by rw [hd])]
        exact ho19
  · have hge := of_decide_eq_false hge
    have hk' : k = us.length := by omega
    rw [hk', List.take_of_length_le (Nat.le_refl _)] at ho hol
    rw [hle]
    have hf15 := hf6.trans' hf
    refine ⟨fun h0 => ⟨fun hb => ⟨⟨none, 0, 0⟩, ?_⟩, fun hb => ⟨o, ?_⟩⟩, fun h0 => ⟨o, ?_⟩⟩
    · have h0 : o.len = 0 := by simpa using h0
      rw [if_pos ⟨List.length_eq_zero_iff.1 (by omega), of_decide_eq_true (hne hb)⟩]
      exact ⟨rfl, Vc.Own.nil _ _ _, hf15⟩
    · rw [if_neg (fun h => of_decide_eq_false (hne hb) h.2)]
      exact ⟨rfl, ho.mono hf6.size, hf15⟩
    · have h0 : o.len ≠ 0 := fun e => by rw [e] at h0; simp at h0
      rw [if_neg (fun h => h0 (by rw [hol, h.1]; rfl))]
      exact ⟨rfl, ho.mono hf6.size, hf15⟩

/-! ### Check -/
def RelF (x y : FileE) : Prop := y.path ≠ x.path ∧ begB y.path (x.path ++ ⟨#[47]⟩) = false
def CheckOK (xs : List FileE) : Prop := (∀ x ∈ xs, cleanB x.path = true) ∧ xs.Pairwise fun x y => RelF x y ∧ RelF y x
theorem checkOK_perm {xs ys : List FileE} (h : xs.Perm ys) : CheckOK xs ↔ CheckOK ys :=
  ⟨fun ⟨h1, h2⟩ => ⟨fun x hx => h1 x (h.symm.subset hx), h2.perm h fun h => ⟨h.2, h.1⟩⟩, fun ⟨h1, h2⟩ => ⟨fun x hx => h1 x (h.subset hx), h2.perm h.symm fun h => ⟨h.2, h.1⟩⟩⟩
theorem begB_self (p : ByteArray) : begB p (p ++ ⟨#[47]⟩) = false := begB_short (by
  rw [ByteArray.size_append, show (ByteArray.mk #[47]).size = 1 from rfl]; omega)
theorem check_new {ys : List FileE} (hris : Rising ys) : NewOK ys ↔ CheckOK ys := by
  constructor
  · intro hok
    refine ⟨ok_clean hok, ?_⟩
    have hst := strict_of hris hok
    have hno : ∀ x ∈ ys, ∀ y ∈ ys, begB y.path (x.path ++ ⟨#[47]⟩) = false := fun x hx y hy => by
      have := hok.2 x hx
      unfold underE at this
      have := List.filter_eq_nil_iff.1 (List.map_eq_nil_iff.1 this) y hy
      simpa using this
    rw [List.pairwise_iff_getElem] at hst ⊢
    intro i j hi hj hij
    have h := hst i j hi hj hij
    refine ⟨⟨fun e => ?_, hno _ (List.getElem_mem _) _ (List.getElem_mem _)⟩, fun e => ?_, hno _ (List.getElem_mem _) _ (List.getElem_mem _)⟩
    · rw [e] at h; exact List.lt_irrefl _ h
    · rw [e] at h; exact List.lt_irrefl _ h
  · rintro ⟨h1, h2⟩
    refine ⟨fun i x hx => ⟨h1 x (List.mem_of_getElem? hx), fun y h0 hy => ?_⟩, fun x hx => ?_⟩
    · have := (List.pairwise_iff_getElem.1 h2) (i - 1) i (List.getElem?_eq_some_iff.1 hy).1 (List.getElem?_eq_some_iff.1 hx).1 (by omega)
      rw [(List.getElem?_eq_some_iff.1 hy).2, (List.getElem?_eq_some_iff.1 hx).2] at this
      exact fun e => this.1.1 e.symm
    · unfold underE
      rw [List.map_eq_nil_iff, List.filter_eq_nil_iff]
      intro y hy
      rw [Bool.not_eq_true]
      obtain ⟨i, hi, rfl⟩ := List.getElem_of_mem hx
      obtain ⟨j, hj, rfl⟩ := List.getElem_of_mem hy
      rcases Nat.lt_trichotomy i j with h | h | h
      · exact ((List.pairwise_iff_getElem.1 h2) i j hi hj h).1.2
      · subst h; exact begB_self _
      · exact ((List.pairwise_iff_getElem.1 h2) j i hj hi h).2.2
/-- What Check hands back. -/
def CheckR (xs : List FileE) (n : Int) : Prop := (n = 2 ∧ (2000 < xs.length ∨ 4194304 < totalF xs)) ∨ (xs.length ≤ 2000 ∧ totalF xs ≤ 4194304 ∧ ((n = 4 ∧ ¬ CheckOK xs) ∨ (n = 0 ∧ CheckOK xs)))
theorem rcheck_spec {w : World} {a : Option Addr} {n c : Nat} {xs : List FileE} (hr : ReadsK encF 2 w a xs) (hn : xs.length = n) (hl : n ≤ 1000000) (ht : totalF xs ≤ 4611686018427387904) (hp : ∀ x ∈ xs, x.path.size ≤ 140737488355328) : Calls Tryd.prog F_cartularyref07_Check #[.slice a n c] w fun e w' =>
    ∃ m, e = .returned (.int .i64 m) ∧ CheckR xs m ∧ Fr (fun _ => False) w w' := by
  refine vc_cartularyref07_Check_ok (R := fun v w' => ∃ m, v = .int .i64 m ∧ CheckR xs m ∧ Fr (fun _ => False) w w') ?_ (fun v w' ⟨m, h⟩ => ⟨m, by rw [h.1], h.2⟩)
  refine ⟨fun t i w' => ∃ k : Nat, i = k ∧ k ≤ n ∧ t = (totalF (xs.take k) : Nat) ∧ Fr (fun _ => False) w w', fun _ i _ => n - i.toNat, ⟨0, rfl, Nat.zero_le _, rfl, .refl _ _⟩, ?_⟩
  rintro t i w5 ⟨k, rfl, hk, rfl, hf⟩
  have e1 : IntKind.i64.wrap ((k : Int) + 1) = ((k + 1 : Nat) : Int) := by rw [wrap_i64 (by omega) (by omega)]; omega
  rw [e1]
  refine ⟨fun hlt => ?_, fun hge => ?_⟩
  · have hlt := of_decide_eq_true hlt
    have hkl : k < xs.length := by omega
    have hx : xs[k]? = some xs[k] := List.getElem?_eq_getElem hkl
    generalize xs[k] = x at hx
    obtain ⟨ad, had, hload⟩ := (hr.keep hf (by simp)).load elF hx
    have htot := totalF_take hx
    have hle := totalF_le xs (k + 1)
    refine ⟨⟨by omega, by omega⟩, ad, had, x.path, x.data, by rw [Int.toNat_natCast]; exact hload, fun w9 h9 => ?_⟩
    subst h9
    refine ⟨_, boxF_run w5 x, x.data, boxF_cell w5 x (.refl (fun _ => False) _) (by simp) (j := 1) rfl, ⟨k + 1, rfl, by omega, ?_, hf.trans' (.alloc _ _ _)⟩, by dsimp only; omega⟩
    rw [htot, wrap_i64 (by omega) (by omega)]; simp
  have hge := of_decide_eq_false hge
  have hk' : k = xs.length := by omega
  rw [hk', List.take_of_length_le (Nat.le_refl _)]
  refine ⟨fun hb => ⟨2, rfl, .inl ⟨rfl, .inl (by have := of_decide_eq_true hb; omega)⟩, hf⟩, fun hb => ⟨fun hb2 => ⟨2, rfl, .inl ⟨rfl, .inr (by have := of_decide_eq_true hb2; omega)⟩, hf⟩, fun hb2 => ?_⟩⟩
  have hb := of_decide_eq_false hb
  have hb2 := of_decide_eq_false hb2
  have bad : ∀ {w' : World}, Fr (fun _ => False) w w' → ¬ CheckOK xs → ∃ m, Value.int .i64 4 = .int .i64 m ∧ CheckR xs m ∧ Fr (fun _ => False) w w' := fun hf h => ⟨4, rfl, .inr ⟨by omega, by omega, .inl ⟨rfl, h⟩⟩, hf⟩
  refine ⟨fun i w' => ∃ k : Nat, i = k ∧ k ≤ n ∧ (∀ i x, i < k → xs[i]? = some x → cleanB x.path = true ∧ ∀ j y, i ≠ j → xs[j]? = some y → RelF x y) ∧ Fr (fun _ => False) w w', fun i _ => n - i.toNat, ⟨0, rfl, Nat.zero_le _, fun i x hi => by omega, hf⟩, ?_⟩
  clear hf e1
  rintro i w15 ⟨k, rfl, hk, hall, hf⟩
  have e1 : IntKind.i64.wrap ((k : Int) + 1) = ((k + 1 : Nat) : Int) := by rw [wrap_i64 (by omega) (by omega)]; omega
  rw [e1]
  refine ⟨fun hlt => ?_, fun hge => ⟨0, rfl, .inr ⟨by omega, by omega, .inr ⟨rfl, fun x hx => ?_, ?_⟩⟩, hf⟩⟩
  · have hlt := of_decide_eq_true hlt
    have hkl : k < xs.length := by omega
    have hx : xs[k]? = some xs[k] := List.getElem?_eq_getElem hkl
    generalize xs[k] = x at hx
    have hxs := hp x (List.mem_of_getElem? hx)
    have h47 : x.path.size + (ByteArray.mk #[47]).size ≤ 9223372036854775807 := Nat.le_trans (Nat.add_le_add_right hxs 1) (by decide)
    obtain ⟨ad, had, hload⟩ := (hr.keep hf (by simp)).load elF hx
    refine ⟨⟨by omega, by omega⟩, ad, had, x.path, x.data, by rw [Int.toNat_natCast]; exact hload, fun w19 h19 => ?_⟩
    subst h19
    have hfa := hf.trans' (Fr.alloc (fun _ => False) w15 (.cells (encF x).toArray T_api_File))
    have hbx : ∀ {w' : World}, Fr (fun _ => False) (w15.alloc (.cells (encF x).toArray T_api_File)) w' → w'.cell? ⟨w15.heap.size, 0, none⟩ = some (.string x.path) := fun h => boxF_cell w15 x h (by simp) rfl
    refine ⟨_, boxF_run w15 x, x.path, hbx (.refl _ _), (rclean_spec x.path hxs _).mono ?_⟩
    rintro e w23 ⟨rfl, hf23⟩
    refine ⟨_, rfl, fun hc => bad (hfa.trans' hf23) fun h => ?_, fun hc => ?_⟩
    · rw [h.1 x (List.mem_of_getElem? hx)] at hc; cases hc
    have hc : cleanB x.path = true := by simpa using hc
    refine ⟨fun i w' => ∃ m : Nat, i = m ∧ m ≤ n ∧ (∀ j y, j < m → k ≠ j → xs[j]? = some y → RelF x y) ∧ Fr (fun _ => False) w23 w', fun i _ => n - i.toNat, ⟨0, rfl, Nat.zero_le _, fun j y hj => by omega, .refl _ _⟩, ?_⟩
    rintro i w28 ⟨m, rfl, hm, hrel, hf28⟩
    have e2 : IntKind.i64.wrap ((m : Int) + 1) = ((m + 1 : Nat) : Int) := by rw [wrap_i64 (by omega) (by omega)]; omega
    rw [e2]
    have hf28' := (hfa.trans' hf23).trans' hf28
    refine ⟨fun hlt2 => ?_, fun hge2 => ⟨⟨k + 1, rfl, by omega, fun i y hi hy => ?_, hf28'⟩, by dsimp only; omega⟩⟩
    · have hlt2 := of_decide_eq_true hlt2
      have hml : m < xs.length := by omega
      have hy : xs[m]? = some xs[m] := List.getElem?_eq_getElem hml
      generalize xs[m] = y at hy
      obtain ⟨ad2, had2, hload2⟩ := (hr.keep hf28' (by simp)).load elF hy
      refine ⟨⟨by omega, by omega⟩, ad2, had2, y.path, y.data, by rw [Int.toNat_natCast]; exact hload2, fun w32 h32 => ?_⟩
      subst h32
      have hf33 := Fr.alloc (fun _ => False) w28 (.cells (encF y).toArray T_api_File)
      have hby : (w28.alloc (.cells (encF y).toArray T_api_File)).cell? ⟨w28.heap.size, 0, none⟩ = some (.string y.path) := boxF_cell w28 y (.refl (fun _ => False) _) (by simp) rfl
      have hbx' := hbx ((hf23.trans' hf28).trans' hf33)
      have rel_of : k ≠ m → ¬ RelF x y → ¬ CheckOK xs := fun hne hn h => by
        have hx' := List.getElem?_eq_some_iff.1 hx
        have hy' := List.getElem?_eq_some_iff.1 hy
        rcases Nat.lt_or_gt_of_ne hne with h3 | h3
        · have := (List.pairwise_iff_getElem.1 h.2) k m hx'.1 hy'.1 h3
          rw [hx'.2, hy'.2] at this
          exact hn this.1
        · have := (List.pairwise_iff_getElem.1 h.2) m k hy'.1 hx'.1 h3
          rw [hx'.2, hy'.2] at this
          exact hn this.2
      refine ⟨_, boxF_run w28 y, fun hne => ⟨y.path, hby, x.path, hbx', fun he => bad (hf28'.trans' hf33) (rel_of ?_ fun h => ?_), fun he => ⟨y.path, hby, x.path, hbx', h47, (begins_spec _ _ _).mono ?_⟩⟩, fun heq => ⟨⟨m + 1, rfl, by omega, fun j z hj hkj hz => ?_, hf28.trans' hf33⟩, by dsimp only; omega⟩⟩
      · intro h; rw [h] at hne; simp at hne
      · rw [bs_eq] at he
        exact h.1 (of_decide_eq_true he)
      · rintro e w39 ⟨rfl, hw⟩
        subst hw
        have hkm : k ≠ m := by intro h; rw [h] at hne; simp at hne
        refine ⟨_, rfl, fun hb => bad (hf28'.trans' hf33) (rel_of hkm fun h => ?_), fun hb => ⟨⟨m + 1, rfl, by omega, fun j z hj hkj hz => ?_, hf28.trans' hf33⟩, by dsimp only; omega⟩⟩
        · rw [h.2] at hb; cases hb
        · by_cases hjm : j = m
          · subst hjm
            rw [hy] at hz; cases hz
            rw [bs_eq] at he
            exact ⟨of_decide_eq_false he, hb⟩
          · exact hrel j z (by omega) hkj hz
      · have hkm : k = m := by
          have : ((k : Int) != (m : Int)) = false := heq
          have : (k : Int) = m := by simpa using this
          omega
        by_cases hjm : j = m
        · omega
        · exact hrel j z (by omega) hkj hz
    · have hge2 := of_decide_eq_false hge2
      by_cases hik : i = k
      · subst hik
        rw [hx] at hy; cases hy
        exact ⟨hc, fun j z hij hz => hrel j z (by have := (List.getElem?_eq_some_iff.1 hz).1; omega) hij hz⟩
      · exact hall i y (by omega) hy
  · obtain ⟨i, hi⟩ := List.mem_iff_getElem?.1 hx
    have hge := of_decide_eq_false hge
    exact (hall i x (by have := (List.getElem?_eq_some_iff.1 hi).1; omega) hi).1
  · have hge := of_decide_eq_false hge
    rw [List.pairwise_iff_getElem]
    intro i j hi hj hij
    have h1 := hall i _ (by omega) (List.getElem?_eq_getElem hi)
    have h2 := hall j _ (by omega) (List.getElem?_eq_getElem hj)
    exact ⟨h1.2 j _ (by omega) (List.getElem?_eq_getElem hj), h2.2 i _ (by omega) (List.getElem?_eq_getElem hi)⟩
end Go.Proofs.YtmihbbgojkbaeaaDoor
