/- The law CartularyNames walked. Condition: Itoa's table is as laid. -/
import Derived.Test.YtoagdpjickippaaDoorTopN
set_option linter.unusedVariables false
namespace Go.Proofs.YtoagdpjickippaaDoor
open Go Vc HexM ShaM Go.Proofs

theorem len_spec {w : World} {b : Nat} {l : Sl} {xs : List FileE} {size : Int} (h : IsSnap w b l xs size) : Calls Tryd.prog F_snap_Snap_Len #[.pointer (some ⟨b, 0, none⟩)] w fun e w' => e = .returned (.int .i64 (xs.length : Nat)) ∧ w' = w :=
  vc_snap_Snap_Len_ok (R := fun v w' => v = .int .i64 (xs.length : Nat) ∧ w' = w) ⟨l, h.files, by rw [h.len], rfl⟩ (fun v w' h => ⟨by rw [h.1], h.2⟩)
theorem under_all {ys : List FileE} (h : ∀ y ∈ ys, FOK y) : underE ys ⟨#[120, 47]⟩ = ys.map (·.path) := by
  unfold underE
  rw [List.filter_eq_self.2 fun y hy => by
    obtain ⟨k, d, _, _, rfl⟩ := h y hy
    unfold begB
    exact decide_eq_true (by dsimp only; unfold pathS; rw [bs_app]; exact List.prefix_append _ _)]
set_option maxHeartbeats 1000000 in
theorem names_walk {a : Option Addr} {n c : Nat} {W : World} {xs : List ObE} (hr : ReadsK encO 2 W a xs) (hn : xs.length = n) (ht : Tab10 W) :
    Calls Tryd.prog F_cartularytop_CartularyNames #[.slice a n c] W fun e w' => e = .returned (.bool true) ∧ RowKit.Below W.heap.size W w' := by
  refine vc_cartularytop_CartularyNames_ok (R := fun v w' => v = .bool true ∧ Fr (fun _ => False) W w') ?_ (fun v w' h => ⟨by rw [h.1], (h.2.mono fun _ _ h => h.elim : Fr (fun k => W.heap.size ≤ k) W w').below (Nat.le_refl _)⟩)
  refine (oid_spec 3 ⟨#[]⟩ (by decide) ht).mono ?_
  rintro e w2 ⟨⟨_, rfl⟩ | ⟨h, rfl⟩, hf2⟩
  rotate_left
  · exact absurd (.inr (.inr (.inl rfl))) h
  refine ⟨_, _, rfl, fun h => (by cases h), fun _ => ⟨fun h => ?_, fun _ w5 h5 => ?_⟩⟩
  · rw [id_blob, beq_self_eq_true] at h; cases h
  have hf5 : Fr (fun _ => False) W w5 := by rw [h5]; exact hf2.trans' (.alloc _ _ _)
  have ho5 : OwnK encF 2 w5 W.heap.size T_api_File ⟨some ⟨w2.heap.size, 0, none⟩, 0, 0⟩ [] := by rw [h5]; exact (OwnK.empty w2 _).mono hf2.size
  clear h5
  refine ⟨fun l w' => ∃ files : List FileE, OwnK encF 2 w' W.heap.size T_api_File l files ∧ files.length ≤ 20 ∧ (∀ f ∈ files, FOK f) ∧ Fr (fun _ => False) W w',
    ⟨fun l i w' => ∃ (k : Nat) (files : List FileE), i = k ∧ k ≤ n ∧ k ≤ 20 ∧ OwnK encF 2 w' W.heap.size T_api_File l files ∧ files.length ≤ k ∧ (∀ f ∈ files, FOK f) ∧ Fr (fun _ => False) W w', fun _ i _ => n - i.toNat,
      ⟨0, [], rfl, Nat.zero_le _, Nat.zero_le _, ho5, Nat.zero_le _, fun f hf => by simp at hf, hf5⟩, ?_⟩, ?_⟩
  · clear ho5 hf5
    rintro l9 i w11 ⟨k, files, rfl, hk, hk20, ho11, hfl, hfk, hf11⟩
    refine ⟨fun hlt => ⟨fun hlt2 => ?_, fun _ => ⟨files, ho11, by omega, hfk, hf11⟩⟩, fun _ => ⟨files, ho11, by omega, hfk, hf11⟩⟩
    have hlt := of_decide_eq_true hlt
    have hlt2 := of_decide_eq_true hlt2
    have hkl : k < xs.length := by omega
    have hx : xs[k]? = some xs[k] := List.getElem?_eq_getElem hkl
    generalize xs[k] = x at hx
    have e1 : IntKind.i64.wrap ((k : Int) + 1) = ((k + 1 : Nat) : Int) := by rw [wrap_i64 (by omega) (by omega)]; omega
    rw [e1, Int.toNat_natCast]
    obtain ⟨ad, had, hcell⟩ := hr k x hx
    have hc0 := hcell 0 (.int .i64 x.1) rfl
    have hc1 := hcell 1 (.string x.2) rfl
    rw [show (ad.add (k * 2)).add 0 = ad.add (k * 2) by rw [add_add]; rfl] at hc0
    have hl11 : l9.len = files.length := ho11.len
    obtain ⟨d, hd⟩ : ∃ d, (if x.2.size > 300 then x.2.extract 0 300 else x.2) = d := ⟨_, rfl⟩
    have hd300 : d.size ≤ 300 := by rw [← hd]; exact fewS_len x.2 300
    have fw : ∀ w', Calls Tryd.prog F_cartularylaw01_Few #[.string x.2, .int .i64 300] w' fun e w'' => e = .returned (.string d) ∧ w'' = w' := fun w' => by rw [← hd]; exact fewS_spec x.2 300 w'
    refine ⟨fun p w' => ∃ g, p = ⟨g, 0, none⟩ ∧ w'.heap[g]? = some (.cells #[.int .i64 x.1, .string d] T_api_Object (0, 0)) ∧ Fr (fun _ => False) w11 w', fun w13 d13 => ?_, ?_⟩
    · have hf13 : Fr (fun _ => False) w11 w13 := .drew _ d13
      have hbig : ∀ w', Fr (fun _ => False) w11 w' → Fr (fun _ => False) W w' := fun w' h => hf11.trans' h
      refine ⟨fun w' => Fr (fun _ => False) w11 w', hf13, ⟨by omega, by omega⟩, ad, had, x.1, fun w17 h17 => (hbig _ h17).cell hc0 (by simp), ⟨by omega, by omega⟩, ad, had, x.2, fun w20 h20 => (hbig _ h20).cell hc1 (by simp), (fw w13).mono ?_, fun w26 h26 => ?_⟩
      · rintro e w22 ⟨rfl, hw⟩
        replace hw := hw.symm
        subst hw
        refine ⟨_, rfl, hf13, fun w24 h24 => ?_⟩
        subst h24
        exact ⟨hf13.trans' (.alloc _ _ _), _, boxO_run w13 x.1 d, _, rfl, alloc_new _ _, hf13.trans' (.alloc _ _ _)⟩
      · subst h26
        refine ⟨hf13.trans' (.alloc _ _ _), (fw _).mono ?_⟩
        rintro e w28 ⟨rfl, hw⟩
        replace hw := hw.symm
        subst hw
        exact ⟨_, rfl, hf13.trans' (.alloc _ _ _), _, boxO_run w13 x.1 d, _, rfl, alloc_new _ _, hf13.trans' (.alloc _ _ _)⟩
    rintro p w32 ⟨g, rfl, hb32, hf32⟩
    have hF32 := hf11.trans' hf32
    refine ⟨_, _, boxO_load hb32, (oid_spec x.1 d hd300 (ht.keep hF32)).mono ?_⟩
    rintro e w36 ⟨⟨hkd, rfl⟩ | ⟨hkd, rfl⟩, hf36⟩
    · have hb36 := hf36.keep hb32 (by simp)
      have hF36 := hF32.trans' hf36
      refine ⟨_, _, rfl, fun h => (by cases h), fun _ => ⟨_, _, boxO_load hb36, (oencode_spec x.1 d hd300 (ht.keep hF36)).mono ?_⟩⟩
      rintro e w42 ⟨⟨_, rfl⟩ | ⟨hno, rfl⟩, hf42⟩
      · have hf42' := (hf32.trans' hf36).trans' hf42
        have h2 : (ByteArray.mk (Array.mk [(120 : UInt8), 47])).size = 2 := rfl
        have hids := idS_size x.1 d
        refine ⟨_, _, rfl, fun b j w' => ∃ m : Nat, j = m ∧ m ≤ files.length ∧ Fr (fun _ => False) w11 w', fun _ j _ => files.length - j.toNat, ⟨0, rfl, Nat.zero_le _, hf42'⟩, ?_⟩
        rintro b47 j w49 ⟨m, rfl, hm, hf49⟩
        have ho49 := ho11.keep hf49 (by simp)
        have hF49 := hf11.trans' hf49
        refine ⟨fun hlt3 => ?_, fun hge3 => ⟨fun _ => ⟨by omega, fun w57 h57 => ?_⟩, fun _ => ⟨⟨k + 1, files, rfl, by omega, by omega, ho49, by omega, hfk, hF49⟩, by dsimp only; omega⟩⟩⟩
        · have hlt3 := of_decide_eq_true hlt3
          have hml : m < files.length := by omega
          have hy : files[m]? = some files[m] := List.getElem?_eq_getElem hml
          generalize files[m] = y at hy
          have e2 : IntKind.i64.wrap ((m : Int) + 1) = ((m + 1 : Nat) : Int) := by rw [wrap_i64 (by omega) (by omega)]; omega
          rw [e2, Int.toNat_natCast]
          obtain ⟨ad2, had2, hld⟩ := (ho49.reads fun _ => rfl).load elF hy
          refine ⟨⟨by omega, by omega⟩, ad2, had2, y.path, y.data, hld, fun w53 h53 => ?_⟩
          subst h53
          refine ⟨_, boxF_run w49 y, ?_⟩
          have hfa : Fr (fun _ => False) w49 (w49.alloc (.cells (encF y).toArray T_api_File)) := .alloc _ _ _
          have hb54 : (w49.alloc (.cells (encF y).toArray T_api_File)).heap[w49.heap.size]? = some (.cells (encF y).toArray T_api_File (0, 0)) := alloc_new _ _
          generalize w49.alloc (.cells (encF y).toArray T_api_File) = w54 at hfa hb54 ⊢
          have nx : ∀ b : Bool, (∃ m' : Nat, ((m + 1 : Nat) : Int) = m' ∧ m' ≤ files.length ∧ Fr (fun _ => False) w11 w54) ∧ files.length - ((m + 1 : Nat) : Int).toNat < files.length - ((m : Nat) : Int).toNat := fun b => ⟨⟨m + 1, rfl, by omega, hf49.trans' hfa⟩, by omega⟩
          exact ⟨fun _ => nx true, fun _ => ⟨y.path, by rw [cell_blk hb54]; rfl, by omega, fun _ => ⟨y.data, by rw [cell_blk hb54]; rfl, nx true⟩, fun _ => nx true⟩⟩
        · obtain ⟨w58, l59, hr58, ho58, hf58, _⟩ := append_oneK elF ho49 (x := ⟨pathS x.1 d, encS x.1 d⟩) (by simp only [maxLen]; omega) (by omega) hF49.size h57
          refine ⟨w58, l59, hr58, ⟨k + 1, files ++ [⟨pathS x.1 d, encS x.1 d⟩], rfl, by omega, by omega, ho58, by rw [List.length_append]; simp; omega, fun f hf => ?_, hF49.trans hf58 fun q hq ⟨y, hy, e⟩ => by have := (ho49.blk hy).1; omega⟩, by dsimp only; omega⟩
          rcases List.mem_append.1 hf with hf | hf
          · exact hfk f hf
          · simp only [List.mem_cons, List.mem_nil_iff, or_false] at hf
            exact ⟨x.1, d, hkd, hd300, hf⟩
      · exact absurd hkd hno
    · exact ⟨_, _, rfl, fun _ => ⟨fun h => (by cases h), fun _ => ⟨⟨k + 1, files, rfl, by omega, by omega, ho11.keep (hf32.trans' hf36) (by simp), by omega, hfk, hF32.trans' hf36⟩, by dsimp only; omega⟩⟩, fun h => by cases h⟩
  clear ho5 hf5 hf2
  rintro l60 w61 ⟨files, ho61, hl20, hfk, hf61⟩
  have hl61 : l60.len = files.length := ho61.len
  have htot := total_ok hfk
  refine (new_spec (ho61.reads fun _ => rfl) ho61.1 (by omega) (by omega) (fun x hx => ?_) (fun W' => AnyF.slices_SortFunc_none sortLays none 0 _ W')).mono ?_
  · obtain ⟨k, d, _, _, rfl⟩ := hfk x hx
    dsimp only
    unfold pathS
    rw [ByteArray.size_append, idS_size]; decide
  rintro e w63 ⟨v, rfl, hf63, hN⟩
  have hF63 := hf61.trans' hf63
  rcases hN with ⟨_, h⟩ | ⟨_, _, ys, hp, hris, ⟨hno, rfl⟩ | ⟨hok, b, lf, rfl, _, hS⟩⟩
  · rcases h with h | h <;> omega
  · refine ⟨none, 4, rfl, fun _ => ⟨?_, hF63⟩, fun h => by cases h⟩
    by_cases h1 : files.length ≤ 1
    · exact absurd (few_ok (by rw [hp.length_eq]; exact h1) fun y hy => hfk y (hp.subset hy)) hno
    · rw [decide_eq_true (by omega)]
  · have hyk : ∀ y ∈ ys, FOK y := fun y hy => hfk y (hp.subset hy)
    have hyl : ys.length = files.length := hp.length_eq
    refine ⟨some ⟨b, 0, none⟩, 0, rfl, fun h => (by cases h), fun _ => ⟨fun h => (by cases h), fun _ => ⟨fun h => (by cases h), fun _ => (len_spec hS).mono ?_⟩⟩⟩
    rintro e w67 ⟨rfl, hw⟩
    replace hw := hw.symm
    subst hw
    refine ⟨_, rfl, fun h => (by rw [hyl, hl61] at h; simp at h), fun _ => (under_spec hS hris ⟨#[120, 47]⟩).mono ?_⟩
    rintro e w70 ⟨o, rfl, ho70, hf70⟩
    rw [under_all hyk] at ho70
    have hol : o.len = files.length := by rw [ho70.len]; simp [strV, hyl]
    have hS70 := hS.keep hf70
    refine ⟨o, rfl, fun h => (by rw [hol, hl61] at h; simp at h), fun _ => (under_spec hS70 hris ⟨#[120, 47]⟩).mono ?_⟩
    rintro e w73 ⟨o', rfl, ho73, hf73⟩
    rw [under_all hyk] at ho73
    have hol' : o'.len = ys.length := by rw [ho73.len]; simp [strV]
    have hS73 := hS70.keep hf73
    have hF73 := (hF63.trans' hf70).trans' hf73
    refine ⟨o', rfl, fun i w' => ∃ m : Nat, i = m ∧ m ≤ ys.length ∧ Fr (fun _ => False) w73 w', fun i _ => ys.length - i.toNat, ⟨0, rfl, Nat.zero_le _, .refl _ _⟩, ?_⟩
    rintro i w78 ⟨m, rfl, hm, hf78⟩
    refine ⟨fun hlt => ?_, fun _ => ⟨rfl, hF73.trans' hf78⟩⟩
    have hlt := of_decide_eq_true hlt
    have hml : m < ys.length := by omega
    have hy : ys[m]? = some ys[m] := List.getElem?_eq_getElem hml
    have hym : ys[m] ∈ ys := List.getElem_mem hml
    generalize ys[m] = y at hy hym
    have e2 : IntKind.i64.wrap ((m : Int) + 1) = ((m + 1 : Nat) : Int) := by rw [wrap_i64 (by omega) (by omega)]; omega
    rw [e2, Int.toNat_natCast, Nat.mul_one]
    obtain ⟨ad, had, hcl⟩ := (ho73.reads.keep hf78 (by simp)) m (.string y.path) (by simp [strV, hy])
    have hF78 := hF73.trans' hf78
    refine ⟨⟨by omega, by omega⟩, ad, had, y.path, hcl, (get_spec (hS73.keep hf78) hris y.path).mono ?_⟩
    rintro e w82 ⟨rfl, hf82⟩
    obtain ⟨z, hz, hzm, hzp⟩ : ∃ z, getE ys y.path = (z.data, 0) ∧ z ∈ ys ∧ z.path = y.path := by
      unfold getE
      cases hf : ys.find? (fun x => decide (x.path = y.path)) with
      | none => exact absurd (List.find?_eq_none.1 hf y hym) (by simp)
      | some z => exact ⟨z, rfl, List.mem_of_find?_eq_some hf, by simpa using List.find?_some hf⟩
    rw [hz]
    obtain ⟨kk, d, hkk, hd, rfl⟩ := hyk z hzm
    dsimp only at hzp ⊢
    have hF82 := hF78.trans' hf82
    refine ⟨_, _, rfl, (odecode_spec kk hkk d hd (ht.keep hF82)).mono ?_⟩
    rintro e w86 ⟨rfl, hf86⟩
    refine ⟨_, _, _, rfl, fun w90 h90 => ?_⟩
    subst h90
    refine ⟨_, boxO_run w86 kk d, ?_⟩
    have hfa : Fr (fun _ => False) w86 (w86.alloc (.cells #[.int .i64 kk, .string d] T_api_Object)) := .alloc _ _ _
    have hb91 : (w86.alloc (.cells #[.int .i64 kk, .string d] T_api_Object)).heap[w86.heap.size]? = some (.cells #[.int .i64 kk, .string d] T_api_Object (0, 0)) := alloc_new _ _
    generalize w86.alloc (.cells #[.int .i64 kk, .string d] T_api_Object) = w91 at hfa hb91 ⊢
    have hf91 := (hf82.trans' hf86).trans' hfa
    refine ⟨_, _, boxO_load hb91, (oid_spec kk d hd (ht.keep (hF78.trans' hf91))).mono ?_⟩
    rintro e w95 ⟨⟨_, rfl⟩ | ⟨hno, rfl⟩, hf95⟩
    · have h2 : (ByteArray.mk (Array.mk [(120 : UInt8), 47])).size = 2 := rfl
      have hids := idS_size kk d
      refine ⟨_, _, rfl, fun h => (by cases h), fun _ => ⟨fun h => (by cases h), fun _ => ⟨by omega, fun h => ?_, fun _ => ⟨⟨m + 1, rfl, by omega, (hf78.trans' hf91).trans' hf95⟩, by omega⟩⟩⟩⟩
      rw [← hzp] at h
      rw [show (ByteArray.mk (Array.mk [(120 : UInt8), 47])) ++ idS kk d = pathS kk d from rfl, beq_self_eq_true] at h
      cases h
    · exact absurd hkk hno
end Go.Proofs.YtoagdpjickippaaDoor
