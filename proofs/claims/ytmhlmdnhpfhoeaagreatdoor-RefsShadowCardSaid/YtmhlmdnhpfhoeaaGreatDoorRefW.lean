/- A reference's file is what counts. Conditions: as named. -/
import Derived.Test.YtmhlmdnhpfhoeaaGreatDoorRefV
import Derived.Test.YtmhlmdnhpfhoeaaGreatDoorRefAw
import Derived.Test.YtmhlmdnhpfhoeaaGreatDoorHexD
import Derived.Test.YtmhlmdnhpfhoeaaGreatDoorLaw16D
set_option linter.unusedVariables false
namespace Go.Proofs.YtmhlmdnhpfhoeaaGreatDoor
open Go Vc HexM Go.Proofs

theorem shadow_walk {a : Option Addr} {n c : Nat} {W : World} {xs : List FileE} (hr : ReadsK encF 2 W a xs) (hn : xs.length = n) (hc : n ≤ c) (hb : ∀ x ∈ xs, x.path.size ≤ reachBytes ∧ x.data.size ≤ reachBytes) (name id : ByteArray) (hnr : name.size ≤ reachBytes) (hir : id.size ≤ reachBytes) (hml : MaxL W) :
    Calls Tryz.prog F_cartularylaw16_RefsShadow #[.slice a n c, .string name, .string id] W fun e w' => e = .returned (.bool true) ∧ RowKit.Below W.heap.size W w' := by
  refine vc_cartularylaw16_RefsShadow_ok (R := fun v w' => v = .bool true ∧ Fr (fun _ => False) W w') ?_ (fun v w' h => ⟨by rw [h.1], (h.2.mono fun _ _ h => h.elim : Fr (fun k => W.heap.size ≤ k) W w').below (Nat.le_refl _)⟩)
  have hrb : reachBytes ≤ 140737488355328 := by decide
  have awk : ∀ {w1 : World} {K : Bool → World → Prop}, Fr (fun _ => False) W w1 → (∀ w2, Fr (fun _ => False) W w2 → K true w2) → Calls Tryz.prog F_cartularylaw16_awake #[] w1 fun e w2 => ∃ b, e = .returned (.bool b) ∧ K b w2 := fun {w1 K} hf hK => by
    refine (awake16_spec (hml.keep hf)).mono ?_
    rintro e w2 ⟨rfl, hf2⟩
    exact ⟨true, rfl, hK w2 (hf.trans' hf2)⟩
  obtain ⟨hl40, hpz, hdz⟩ := shortF_facts' (m := 40) hb
  refine (short13_spec hr hn hc 40 (by decide)).mono ?_
  rintro e w2 ⟨l3, rfl, ho2, hf2⟩
  generalize shortF xs 40 = zs at ho2 hl40 hpz hdz
  refine ⟨l3, rfl, (rid_spec id (by omega) w2).mono ?_⟩
  rintro e w5 ⟨rfl, hw⟩
  replace hw := hw.symm
  subst hw
  refine ⟨_, rfl, fun _ => awk hf2 fun w' hf => ⟨rfl, hf⟩, fun hid => (rname_spec name (by omega) w2).mono ?_⟩
  have hid : isId id.data.toList = true := by simpa using hid
  rintro e w11 ⟨rfl, hf11⟩
  have hF11 := hf2.trans' hf11
  refine ⟨_, rfl, fun _ => awk hF11 fun w' hf => ⟨rfl, hf⟩, fun hnm w16 h16 => ?_⟩
  have hnm : nameB name = true := by simpa using hnm
  have hf16 : Fr (fun _ => False) w11 w16 := by rw [h16]; exact .alloc _ _ _
  have ho16 : OwnK encF 2 w16 w11.heap.size T_api_File ⟨some ⟨w11.heap.size, 0, none⟩, 0, 0⟩ [] := by rw [h16]; exact .empty w11 _
  have hzl := ho2.1
  have hzr := (ho2.keep hf11 (by simp)).reads fun _ => rfl
  refine ⟨fun sl i w' => ∃ k : Nat, i = k ∧ k ≤ zs.length ∧ OwnK encF 2 w' w11.heap.size T_api_File sl ((zs.take k).filter fun x => decide (x.path ≠ name)) ∧ Fr (fun _ => False) w11 w', fun _ i _ => zs.length - i.toNat, ⟨0, rfl, Nat.zero_le _, ho16, hf16⟩, ?_⟩
  clear ho16 hf16 h16 w16
  rintro sl i w21 ⟨k, rfl, hk, ho21, hf21⟩
  have e1 : IntKind.i64.wrap ((k : Int) + 1) = ((k + 1 : Nat) : Int) := by rw [wrap_i64 (by omega) (by omega)]; omega
  rw [e1]
  have hF21 := hF11.trans' hf21
  refine ⟨fun hlt => ?_, fun hge => ?_⟩
  · have hlt := of_decide_eq_true hlt
    have hkl : k < zs.length := by omega
    have hx : zs[k]? = some zs[k] := List.getElem?_eq_getElem hkl
    generalize zs[k] = x at hx
    have htk : zs.take (k + 1) = zs.take k ++ [x] := by rw [List.take_add_one, hx]; rfl
    obtain ⟨ad, had, hload⟩ := (hzr.keep hf21 (by simp)).load elF hx
    refine ⟨⟨by omega, by omega⟩, ad, had, x.path, x.data, by rw [Int.toNat_natCast]; exact hload, fun w25 h25 => ?_⟩
    subst h25
    have hfa : Fr (fun _ => False) w21 (w21.alloc (.cells (encF x).toArray T_api_File)) := .alloc _ _ _
    have hbx := boxF_cell w21 x (.refl (fun _ => False) _) (by simp) (j := 0) rfl
    have hbd := boxF_cell w21 x (.refl (fun _ => False) _) (by simp) (j := 1) rfl
    have ho26 := ho21.keep hfa (by simp)
    refine ⟨_, boxF_run w21 x, x.path, hbx, ?_⟩
    generalize w21.alloc (.cells (encF x).toArray T_api_File) = w26 at hfa hbx hbd ho26
    have hF26 := hf21.trans' hfa
    rw [bs_eq]
    refine ⟨fun hne => ?_, fun heq => ⟨⟨k + 1, rfl, by omega, ?_, hF26⟩, by dsimp only; omega⟩⟩
    · have hne : x.path ≠ name := by simpa using hne
      have hload2 : (loadVar T_api_File ⟨w21.heap.size, 0, none⟩).run Tryz.prog w26 = .ok (.agg #[.string x.path, .string x.data]) w26 :=
        load_agg (vs := [.string x.path, .string x.data]) (agg_of (by kernel_rfl)) (by kernel_rfl) fun j v hv => by
          match j, hv with
          | 0, hv => cases hv; exact hbx
          | 1, hv => cases hv; exact hbd
      refine ⟨_, _, hload2, fun w30 h30 => ?_⟩
      obtain ⟨w31, l32, hr31, ho31, hf31, _⟩ := append_oneK elF ho26 (x := x) (by have := List.length_filter_le (fun x : FileE => decide (x.path ≠ name)) (zs.take k); rw [List.length_take] at this; simp only [maxLen]; omega) (by have := List.length_filter_le (fun x : FileE => decide (x.path ≠ name)) (zs.take k); rw [List.length_take] at this; omega) hF26.size h30
      refine ⟨w31, l32, hr31, ⟨k + 1, rfl, by omega, ?_, hF26.trans hf31 fun q hq ⟨z, hz, e⟩ => by have := (ho26.blk hz).1; omega⟩, by dsimp only; omega⟩
      rw [htk, List.filter_append, List.filter_cons_of_pos (by simpa using hne), List.filter_nil]
      exact ho31
    · have heq : x.path = name := by simpa using heq
      rw [htk, List.filter_append, List.filter_cons_of_neg (by simpa using heq), List.filter_nil, List.append_nil]
      exact ho26
  · have hge := of_decide_eq_false hge
    have hk' : k = zs.length := by omega
    rw [hk', List.take_length] at ho21
    have hrest : ∀ x ∈ zs.filter fun x => decide (x.path ≠ name), x ∈ zs ∧ x.path ≠ name := fun x hx => by
      have := List.mem_filter.1 hx
      exact ⟨this.1, by simpa using this.2⟩
    have hrl : (zs.filter fun x => decide (x.path ≠ name)).length ≤ 40 := Nat.le_trans (List.length_filter_le _ _) hl40
    generalize (zs.filter fun x => decide (x.path ≠ name)) = rest at ho21 hrest hrl
    have hrs := ho21.1
    have htot := total_of' 3000 rest fun x hx => hdz x (hrest x hx).1
    refine (new_spec (ho21.reads fun _ => rfl) hrs (by omega) (by omega) (fun x hx => by have := hpz x (hrest x hx).1; omega) nilSort).mono ?_
    rintro e w34 ⟨v, rfl, hR⟩
    obtain ⟨hf34, p35, n36, rfl, hA⟩ := newR_two hR
    clear hR
    have hF34 := hF21.trans' hf34
    have ho34 := ho21.keep hf34 (by simp)
    have hi40 := id_full hid
    have hls : (id ++ ⟨#[10]⟩ : ByteArray).size = 41 := by rw [ByteArray.size_append, hi40]; rfl
    refine ⟨p35, n36, rfl, by rw [hi40]; decide, fun w37 h37 => ?_⟩
    obtain ⟨w38, l39, hr38, ho38, hf38, _⟩ := append_oneK elF ho34 (x := ⟨name, id ++ ⟨#[10]⟩⟩) (by simp only [maxLen]; omega) (by omega) (by have := hf21.size; have := hf34.size; omega) h37
    have hslb : ∀ q, At sl q → w11.heap.size ≤ q ∧ q < w21.heap.size := fun q ⟨z, hz, e⟩ => by rw [e]; exact ho21.blk hz
    have hF38 : Fr (fun _ => False) W w38 := hF34.trans hf38 fun q hq e => by have := (hslb q e).1; have := hF11.size; omega
    have hrest2 : ∀ x ∈ rest ++ [⟨name, id ++ ⟨#[10]⟩⟩], x.path.size ≤ 140737488355328 ∧ x.data.size ≤ 3000 := fun x hx => by
      rcases List.mem_append.1 hx with hx | hx
      · have h1 := hpz x (hrest x hx).1
        have h2 := hdz x (hrest x hx).1
        omega
      · rw [List.mem_singleton.1 hx]
        exact ⟨by simp only; omega, by simp only; omega⟩
    have htot2 := total_of' 3000 _ fun x hx => (hrest2 x hx).2
    have hl2 : (rest ++ [(⟨name, id ++ ⟨#[10]⟩⟩ : FileE)]).length ≤ 41 := by rw [List.length_append, List.length_singleton]; omega
    refine ⟨w38, l39, hr38, (new_spec (ho38.reads fun _ => rfl) ho38.1 (by have := ho38.1; omega) (by omega) (fun x hx => (hrest2 x hx).1) nilSort).mono ?_⟩
    rintro e w41 ⟨v2, rfl, hR2⟩
    obtain ⟨hf41, p42, n43, rfl, hB⟩ := newR_two hR2
    clear hR2
    have hF41 := hF38.trans' hf41
    refine ⟨p42, n43, rfl, fun h36 => awk hF41 fun w' hf => ⟨fun _ => ⟨fun _ => ⟨rfl, hf⟩, fun h => by rw [h36] at h; cases h⟩, fun h => by cases h⟩, fun h36 => ?_⟩
    refine ⟨fun h43 => awk hF41 fun w' hf => ⟨fun _ => ⟨fun _ => ⟨rfl, hf⟩, fun _ => ⟨by rw [h43], hf⟩⟩, fun h => by cases h⟩, fun h43 => ?_⟩
    have h36 : n36 = 0 := by simpa using h36
    have h43 : n43 = 0 := by simpa using h43
    obtain ⟨_, b, l, ys, rfl, hbl, hp, hris, hok, hS⟩ := hA.resolve_left fun h => h.2 h36
    obtain ⟨_, b2, l2, ys2, rfl, hbl2, hp2, hris2, hok2, hS2⟩ := hB.resolve_left fun h => h.2 h43
    have hst := strict_of hris hok
    have hst2 := strict_of hris2 hok2
    have hS38 : IsSnap w38 b l ys (totalF rest) := snap_keepX hS hf38 (fun e => by have := (hslb _ e).2; omega) fun x hx e => by have := (hslb _ e).2; have := hbl.2 x hx; omega
    have hS41 := hS38.keep hf41
    have hyd : ∀ x ∈ ys, x.data.size ≤ 140737488355328 := fun x hx => by have := hdz x (hrest x (hp.subset hx)).1; omega
    have hyd2 : ∀ x ∈ ys2, x.data.size ≤ 140737488355328 := fun x hx => by have := (hrest2 x (hp2.subset hx)).2; omega
    have hg : ∀ q, q ≠ name → getE ys2 q = getE ys q := fun q hq => by
      rw [find_perm hp2 (strict_uniq hst2), getE_snoc (fun e => hq e.symm), ← find_perm hp (strict_uniq hst)]
    have hgn : getE ys name = (⟨#[]⟩, 7) := by
      rw [find_perm hp (strict_uniq hst)]
      exact getE_none fun x hx => (hrest x hx).2
    have hgn2 : getE ys2 name = (id ++ ⟨#[10]⟩, 0) := by
      rw [find_perm hp2 (strict_uniq hst2)]
      exact getE_last (x := ⟨name, id ++ ⟨#[10]⟩⟩) fun y hy => (hrest y hy).2
    have hOO : openE ys2 = openE ys := openE_same (hg _ fun e => name_packed hnm e.symm)
    refine ⟨fun h => (by cases h), fun _ => ⟨fun h => (by cases h), fun _ => (open_spec (hml.keep hF41) hS41 hris hyd).mono ?_⟩⟩
    rintro e w57 ⟨hf57, hO⟩
    have hF57 := hF41.trans' hf57
    cases hE : openE ys with
    | error m =>
      rw [hE] at hO
      subst hO
      refine ⟨_, _, rfl, (open_spec (hml.keep hF57) (hS2.keep hf57) hris2 hyd2).mono ?_⟩
      rintro e w61 ⟨hf61, hO2⟩
      rw [hOO, hE] at hO2
      subst hO2
      have hF61 := hF57.trans' hf61
      have hne := openE_err hE
      have hb0 : (m != 0) = true := by simpa using hne
      refine ⟨_, _, rfl, fun h => by simp at h, fun _ => ⟨fun _ => awk hF61 fun w' hf => ⟨fun _ => ⟨by rw [hb0], hf⟩, fun h => by cases h⟩, fun h => by rw [hb0] at h; cases h⟩⟩
    | ok rows =>
      rw [hE] at hO
      obtain ⟨rb, mb, rfl, hrb1, hrb2, hI⟩ := hO
      have hrok := openE_ok hE
      have hS57 := hS41.keep hf57
      refine ⟨_, _, rfl, (open_spec (hml.keep hF57) (hS2.keep hf57) hris2 hyd2).mono ?_⟩
      rintro e w61 ⟨hf61, hO2⟩
      rw [hOO, hE] at hO2
      obtain ⟨rb2, mb2, rfl, _, _, hI2⟩ := hO2
      have hF61 := hF57.trans' hf61
      have hS61 := hS57.keep hf61
      have hS261 := (hS2.keep hf57).keep hf61
      have hI61 := hI.keep hf61
      refine ⟨_, _, rfl, fun h => (by simp at h), fun _ => ⟨fun h => (by simp at h), fun _ => ⟨fun h => (by cases h), fun _ => ⟨fun h => (by cases h), fun _ => (lookup_spec (hml.keep hF61) hI2 hS261 hris2 hyd2 name (by omega)).mono ?_⟩⟩⟩⟩
      have hlk2 : lookE ys2 rows name = (id, 0) := by
        unfold lookE
        rw [if_neg (by rw [hnm]; decide), lookF_eq, id_file hid hgn2]
        simp only
        rw [if_neg (by decide), if_pos (.inr fun e => by rw [e] at hi40; cases hi40)]
      rw [hlk2]
      rintro e w74 ⟨rfl, hf74⟩
      have hF74 := hF61.trans' hf74
      refine ⟨_, _, rfl, (lookup_spec (hml.keep hF74) (hI61.keep hf74) (hS61.keep hf74) hris hyd name (by omega)).mono ?_⟩
      rintro e w78 ⟨rfl, hf78⟩
      have hF78 := hF74.trans' hf78
      have hlk : (lookE ys rows name).2 = 0 → name ∈ RKeys rows := fun h => by
        refine (rlook_keys name rows).1 ?_
        unfold lookE at h
        rw [if_neg (by rw [hnm]; decide), lookF_eq] at h
        have hf7 : (fileE ys name).2.2 = 7 := by unfold fileE; rw [hgn]; rfl
        rw [if_pos hf7] at h
        cases hx : rlook rows name with
        | some x => rfl
        | none => rw [hx] at h; exact absurd h (by decide)
      refine ⟨_, _, rfl, fun s w' => Fr (fun _ => False) w61 w' ∧ (s = ⟨#[]⟩ ∨ (s = name ∧ name ∈ RKeys rows)), ⟨fun h => ⟨hf74.trans' hf78, .inr ⟨rfl, hlk (by simpa using h)⟩⟩, fun h => ⟨hf74.trans' hf78, .inl rfl⟩⟩, ?_⟩
      rintro s w83 ⟨hf83, hs⟩
      refine (awake16_spec (hml.keep (hF61.trans' hf83))).mono ?_
      rintro e w85 ⟨rfl, hf85⟩
      have hf85' := hf83.trans' hf85
      refine ⟨true, rfl, fun _ => ⟨fun _ => ⟨fun _ => (peeled_spec (hI2.keep hf85') (hS261.keep hf85') hris2 name).mono ?_, fun h => ?_⟩, fun h => (by simp at h)⟩, fun h => by cases h⟩
      rotate_left
      · rw [bs_eq, decide_eq_true rfl] at h; cases h
      rintro e w88 ⟨rfl, hf88⟩
      have hpe : peelE ys2 rows name = ⟨#[]⟩ := by unfold peelE; rw [hgn2]; rfl
      rw [hpe]
      have hf88' := hf85'.trans' hf88
      have hF88 := hF61.trans' hf88'
      rw [bs_eq, bs_eq]
      refine ⟨_, rfl, fun _ => ⟨fun _ => ⟨rfl, hF88⟩, fun hsn => ?_⟩, fun h => (by simp at h)⟩
      obtain ⟨_, hk⟩ := hs.resolve_left fun e => by rw [e] at hsn; simp at hsn
      have hyl : ys.length ≤ 40 := by have := hp.length_eq; omega
      refine (names_spec (hml.keep hF88) (hI61.keep hf88') (hS61.keep hf88') hris (fun x hx => by have := hpz x (hrest x (hp.subset hx)).1; omega) (by have := hrok.few; omega) (by omega) name).mono ?_
      rintro e w91 ⟨l92, rfl, ho92, hf92⟩
      have hmem : name ∈ namesE ys rows name := by
        rw [(namesE_rise ys rows name).2, mem_namesU]
        exact ⟨.inr hk, by unfold begB; exact decide_eq_true (List.prefix_refl _)⟩
      have hpos : 0 < (namesE ys rows name).length := List.length_pos_of_mem hmem
      have hll : l92.len = (namesE ys rows name).length := by rw [ho92.len]; simp [strV]
      refine ⟨l92, rfl, fun _ => ⟨rfl, hF88.trans' hf92⟩, fun h => ?_⟩
      have := of_decide_eq_false h
      omega
end Go.Proofs.YtmhlmdnhpfhoeaaGreatDoor
