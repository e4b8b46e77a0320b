/- The law of references read. Conditions: as named. -/
import Derived.Test.YtmhlmdnhpfhoeaaGreatDoorRefRef
import Derived.Test.YtmhlmdnhpfhoeaaGreatDoorRefAw
import Derived.Test.YtmhlmdnhpfhoeaaGreatDoorLaw16C
set_option linter.unusedVariables false
namespace Go.Proofs.YtmhlmdnhpfhoeaaGreatDoor
open Go Vc HexM Go.Proofs

theorem reads_walk {a : Option Addr} {n c : Nat} {W : World} {xs : List FileE} (hr : ReadsK encF 2 W a xs) (hn : xs.length = n) (hc : n ≤ c) (hb : ∀ x ∈ xs, x.path.size ≤ reachBytes ∧ x.data.size ≤ reachBytes) (name front : ByteArray) (hnr : name.size ≤ reachBytes) (hfr : front.size ≤ reachBytes) (hml : MaxL W) :
    Calls Tryz.prog F_cartularylaw16_RefsReads #[.slice a n c, .string name, .string front] W fun e w' => e = .returned (.bool true) ∧ RowKit.Below W.heap.size W w' := by
  refine vc_cartularylaw16_RefsReads_ok (R := fun v w' => v = .bool true ∧ Fr (fun _ => False) W w') ?_ (fun v w' h => ⟨by rw [h.1], (h.2.mono fun _ _ h => h.elim : Fr (fun k => W.heap.size ≤ k) W w').below (Nat.le_refl _)⟩)
  have hrb : reachBytes ≤ 140737488355328 := by decide
  have awk : ∀ {w1 : World} {K : Bool → World → Prop}, Fr (fun _ => False) W w1 → (∀ w2, Fr (fun _ => False) w1 w2 → K true w2) → Calls Tryz.prog F_cartularylaw16_awake #[] w1 fun e w2 => ∃ b, e = .returned (.bool b) ∧ K b w2 := fun {w1 K} hf hK => by
    refine (awake16_spec (hml.keep hf)).mono ?_
    rintro e w2 ⟨rfl, hf2⟩
    exact ⟨true, rfl, hK w2 hf2⟩
  obtain ⟨hl40, hpz, hdz⟩ := shortF_facts' (m := 40) hb
  refine (short13_spec hr hn hc 40 (by decide)).mono ?_
  rintro e w2 ⟨l3, rfl, ho2, hf2⟩
  generalize shortF xs 40 = zs at ho2 hl40 hpz hdz
  have hzl := ho2.1
  have htot := total_of' 3000 zs hdz
  refine ⟨l3, rfl, (new_spec (ho2.reads fun _ => rfl) hzl (by omega) (by omega) (fun x hx => by have := hpz x hx; omega) nilSort).mono ?_⟩
  rintro e w5 ⟨v, rfl, hR⟩
  obtain ⟨hf5, p6, n7, rfl, hA⟩ := newR_two hR
  clear hR
  have hF5 := hf2.trans' hf5
  refine ⟨p6, n7, rfl, fun h7 => awk hF5 fun w' hf => ⟨fun _ => ⟨by rw [h7], hF5.trans' hf⟩, fun h => by cases h⟩, fun h7 => ?_⟩
  have h7 : n7 = 0 := by simpa using h7
  obtain ⟨_, b, l, ys, rfl, hbl, hp, hris, hok, hS⟩ := hA.resolve_left fun h => h.2 h7
  clear hA
  have hst := strict_of hris hok
  have hyl : ys.length ≤ 40 := by have := hp.length_eq; omega
  have hyp : ∀ x ∈ ys, x.path.size ≤ 140737488355328 := fun x hx => by have := hpz x (hp.subset hx); omega
  have hyd : ∀ x ∈ ys, x.data.size ≤ 140737488355328 := fun x hx => by have := hdz x (hp.subset hx); omega
  refine ⟨fun h => (by cases h), fun _ => (open_spec (hml.keep hF5) hS hris hyd).mono ?_⟩
  rintro e w15 ⟨hf15, hO⟩
  have hF15 := hF5.trans' hf15
  have hz15 := (ho2.keep (hf5.trans' hf15) (by simp)).reads fun _ => rfl
  have hro := ropen_spec (n := l3.len) (c := l3.cap) hz15 hzl (by omega) hp hst hyd
  cases hE : openE ys with
  | error m =>
    rw [hE] at hO hro
    subst hO
    refine ⟨_, _, rfl, hro.mono ?_⟩
    rintro e w19 ⟨hf19, rfl⟩
    have hF19 := hF15.trans' hf19
    refine ⟨⟨none, 0, 0⟩, m, rfl, awk hF19 fun w23 hf23 => ⟨fun h => (by cases h), fun _ => ⟨fun h => (by simp at h), fun _ => ?_⟩⟩⟩
    have hF23 := hF19.trans' hf23
    refine (name_spec name (by omega) (hml.keep hF23)).mono ?_
    rintro e w26 ⟨rfl, hf26⟩
    refine ⟨_, rfl, (rname_spec name (by omega) w26).mono ?_⟩
    rintro e w29 ⟨rfl, hf29⟩
    have hF29 := (hF23.trans' hf26).trans' hf29
    refine ⟨_, rfl, fun h => (by simp at h), fun _ => (name_spec front (by omega) (hml.keep hF29)).mono ?_⟩
    rintro e w32 ⟨rfl, hf32⟩
    refine ⟨_, rfl, (rname_spec front (by omega) w32).mono ?_⟩
    rintro e w35 ⟨rfl, hf35⟩
    have hF35 := (hF29.trans' hf32).trans' hf35
    have hne := openE_err hE
    exact ⟨_, rfl, fun h => (by simp at h), fun _ => ⟨fun _ => ⟨rfl, hF35⟩, fun h => absurd (by simpa using h) hne⟩⟩
  | ok rows =>
    rw [hE] at hO hro
    obtain ⟨rb, mb, rfl, hrb1, hrb2, hI⟩ := hO
    have hrok := openE_ok hE
    have hfew := hrok.few
    refine ⟨_, _, rfl, hro.mono ?_⟩
    rintro e w19 ⟨hf19, l20, rfl, ho19⟩
    have hF19 := hF15.trans' hf19
    refine ⟨l20, 0, rfl, awk hF19 fun w23 hf23 => ⟨fun h => (by cases h), fun _ => ⟨fun h => (by cases h), fun _ => ?_⟩⟩⟩
    have hF23 := hF19.trans' hf23
    refine (name_spec name (by omega) (hml.keep hF23)).mono ?_
    rintro e w26 ⟨rfl, hf26⟩
    refine ⟨_, rfl, (rname_spec name (by omega) w26).mono ?_⟩
    rintro e w29 ⟨rfl, hf29⟩
    have hF29 := (hF23.trans' hf26).trans' hf29
    refine ⟨_, rfl, fun h => (by simp at h), fun _ => (name_spec front (by omega) (hml.keep hF29)).mono ?_⟩
    rintro e w32 ⟨rfl, hf32⟩
    refine ⟨_, rfl, (rname_spec front (by omega) w32).mono ?_⟩
    rintro e w35 ⟨rfl, hf35⟩
    have hF35 := (hF29.trans' hf32).trans' hf35
    have hf35' : Fr (fun _ => False) w19 w35 := (((hf23.trans' hf26).trans' hf29).trans' hf32).trans' hf35
    have hf1535 := hf19.trans' hf35'
    have hI35 := hI.keep hf1535
    have hS35 := hS.keep (hf15.trans' hf1535)
    have hz35 := hz15.keep hf1535 (by simp)
    have hrr35 := (ho19.keep hf35' (by simp)).reads fun _ => rfl
    have hrl : rows.length = l20.len := ho19.len.symm
    clear hro ho19
    refine ⟨_, rfl, fun h => (by simp at h), fun _ => ⟨fun h => (by cases h), fun _ => ⟨fun h => (by cases h), fun _ => (names_spec (hml.keep hF35) hI35 hS35 hris hyp (by omega) (by omega) front).mono ?_⟩⟩⟩
    rintro e w38 ⟨l39, rfl, ho38, hf38⟩
    refine ⟨l39, rfl, (rnames_spec (n := l3.len) (c := l3.cap) (rc := l20.cap) (hz35.keep hf38 (by simp)) hzl (by omega) hp hst hyp (hrr35.keep hf38 (by simp)) hrl (by omega) front).mono ?_⟩
    rintro e w41 ⟨l42, rfl, ho41, hf41⟩
    have hnl : ∀ fr, (namesE ys rows fr).length ≤ 2040 := fun fr => by
      unfold namesE
      have h1 := putAll_len (namesU ys rows fr) []
      have h2 : (namesU ys rows fr).length ≤ 2040 := by
        unfold namesU
        rw [List.length_append]
        have h3 := List.length_filter_le (fun p => nameB p && begB p fr) (underE ys sRefs)
        have h4 := List.length_filter_le (fun p => begB p fr) (RKeys rows)
        have h5 : (underE ys sRefs).length ≤ ys.length := by unfold underE; rw [List.length_map]; exact List.length_filter_le _ _
        rw [rkeys_len] at h4
        omega
      simp only [List.length_nil] at h1
      omega
    have hn1 : (namesE ys rows front).length = l39.len := by rw [ho38.len]; simp [strV]
    have hn2 : (namesE ys rows front).length = l42.len := by rw [ho41.len]; simp [strV]
    refine ⟨l42, rfl, (same07_spec ((ho38.keep hf41 (by simp)).reads) ho41.reads hn1 hn2 (by have := hnl front; omega)).mono ?_⟩
    rintro e w44 ⟨⟨r, rfl, hrt⟩, d44⟩
    have hrt : r = true := hrt.2 rfl
    subst hrt
    have hf44 : Fr (fun _ => False) w35 w44 := (hf38.trans' hf41).trans' (.drew _ d44)
    have hF44 := hF35.trans' hf44
    refine ⟨true, rfl, fun h => (by cases h), fun _ w46 h46 => ?_⟩
    have hf46 : Fr (fun _ => False) w44 w46 := by rw [h46]; exact .alloc _ _ _
    have ho46 : Vc.Own w46 w44.heap.size T_string ⟨some ⟨w44.heap.size, 0, none⟩, 2, 2⟩ (strV [name, sHEAD]) :=
      ⟨rfl, .inr ⟨w44.heap.size, #[.string name, .string sHEAD], rfl, Nat.le_refl _, by rw [h46]; exact alloc_new _ _, Nat.le_refl _, (by decide : (2 : Nat) ≤ maxLen), rfl, rfl⟩⟩
    clear h46
    have hf3546 := hf44.trans' hf46
    refine (rnames_spec (n := l3.len) (c := l3.cap) (rc := l20.cap) (hz35.keep hf3546 (by simp)) hzl (by omega) hp hst hyp (hrr35.keep hf3546 (by simp)) hrl (by omega) ⟨#[]⟩).mono ?_
    rintro e w48 ⟨l49, rfl, ho48, hf48⟩
    have hnl0 := hnl ⟨#[]⟩
    have hall : ∀ p ∈ namesE ys rows ⟨#[]⟩, nameB p = true ∧ p ≠ sHEAD := fun p hpm => names_all hrok hpm
    generalize namesE ys rows ⟨#[]⟩ = us at ho48 hnl0 hall
    have hn3 : (strV us).length = l49.len := ho48.len.symm
    obtain ⟨w50, l51, hr50, ho50, hf50⟩ := append_all elString (ho46.keep hf48 (by simp)) l49.cap ho48.reads (by intro u hu; obtain ⟨p, _, rfl⟩ := List.mem_map.1 hu; rfl) (by simp [strV, maxLen]; omega) (by simp [strV]; omega) (by have := hf46.size; have := hf48.size; omega) hn3
    have hf4450 : Fr (fun _ => False) w44 w50 := (hf46.trans' hf48).trans hf50 fun q hq ⟨y, hy, e⟩ => by cases hy; simp only at e; omega
    have hF50 := hF44.trans' hf4450
    have hf3550 := hf44.trans' hf4450
    refine ⟨l49, rfl, w50, l51, hr50, fun i w' => ∃ k : Nat, i = k ∧ k ≤ us.length + 2 ∧ Fr (fun _ => False) w50 w', fun i _ => us.length + 2 - i.toNat, ⟨0, rfl, Nat.zero_le _, .refl _ _⟩, ?_⟩
    have hlr := ho50.reads
    have hll : l51.len = us.length + 2 := by rw [ho50.len]; simp [strV]
    clear ho50 ho48 ho46 hr50
    rintro i w55 ⟨k, rfl, hk, hf55⟩
    have e1 : IntKind.i64.wrap ((k : Int) + 1) = ((k + 1 : Nat) : Int) := by rw [wrap_i64 (by omega) (by omega)]; omega
    rw [e1]
    have hF55 := hF50.trans' hf55
    refine ⟨fun hlt => ?_, fun _ => ⟨rfl, hF55⟩⟩
    have hlt := of_decide_eq_true hlt
    obtain ⟨x, hx, hxz⟩ : ∃ x, (strV [name, sHEAD] ++ strV us)[k]? = some (.string x) ∧ x.size ≤ 140737488355328 := by
      match k, hlt with
      | 0, _ => exact ⟨name, rfl, by omega⟩
      | 1, _ => exact ⟨sHEAD, rfl, by decide⟩
      | k + 2, hlt =>
        have hkl : k < us.length := by omega
        refine ⟨us[k], ?_, ?_⟩
        · rw [List.getElem?_append_right (by simp [strV])]
          simp [strV, hkl]
        · obtain ⟨hxn, hxh⟩ := hall _ (List.getElem_mem hkl)
          unfold nameB at hxn
          rw [decide_eq_false hxh, Bool.false_or] at hxn
          simp only [Bool.and_eq_true] at hxn
          have := (clean_partsN hxn.1.1.1.1.1.2).1
          omega
    obtain ⟨ad, had, hcx⟩ := hlr k _ hx
    have hf3555 := hf3550.trans' hf55
    refine ⟨⟨by omega, by omega⟩, ad, had, x, by rw [Int.toNat_natCast, Nat.mul_one]; exact hf55.cell hcx (by simp), fun _ => ⟨rfl, hF55⟩, fun _ => (lookup_spec (hml.keep hF55) (hI35.keep hf3555) (hS35.keep hf3555) hris hyd x hxz).mono ?_⟩
    rintro e w59 ⟨rfl, hf59⟩
    have hf3559 := hf3555.trans' hf59
    refine ⟨_, _, rfl, (rlookup_spec (n := l3.len) (c := l3.cap) (rc := l20.cap) (hz35.keep hf3559 (by simp)) hzl (by omega) hp hst hyd (hrr35.keep hf3559 (by simp)) hrl (by omega) x hxz).mono ?_⟩
    rintro e w63 ⟨rfl, hf63⟩
    have hf3563 := hf3559.trans' hf63
    refine ⟨_, _, rfl, fun h => (by simp at h), fun _ => ⟨fun h => (by simp at h), fun _ => (peeled_spec (hI35.keep hf3563) (hS35.keep hf3563) hris x).mono ?_⟩⟩
    rintro e w67 ⟨rfl, hf67⟩
    have hf3567 := hf3563.trans' hf67
    refine ⟨_, rfl, (rpeeled_spec (n := l3.len) (c := l3.cap) (rc := l20.cap) (hz35.keep hf3567 (by simp)) hzl (by omega) hp hst (hrr35.keep hf3567 (by simp)) hrl (by omega) hrok.once x).mono ?_⟩
    rintro e w70 ⟨rfl, hf70⟩
    refine ⟨_, rfl, fun h => (by simp at h), fun _ => ⟨⟨k + 1, rfl, by omega, ((hf55.trans' hf59).trans' hf63).trans' (hf67.trans' hf70)⟩, by dsimp only; omega⟩⟩
end Go.Proofs.YtmhlmdnhpfhoeaaGreatDoor
