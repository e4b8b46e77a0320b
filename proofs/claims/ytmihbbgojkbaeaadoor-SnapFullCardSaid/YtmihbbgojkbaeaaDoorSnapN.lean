/- The law of reads walked. Conditions: texts are no longer than memory. -/
import Derived.Test.YtmihbbgojkbaeaaDoorSnapM
set_option linter.unusedVariables false
namespace Go.Proofs.YtmihbbgojkbaeaaDoor
open Go Vc Go.Proofs

theorem checkR_fun {xs : List FileE} {n m : Int} (h1 : CheckR xs n) (h2 : CheckR xs m) : n = m := by
  rcases h1 with ⟨rfl, h1⟩ | ⟨a1, a2, h1⟩
  · rcases h2 with ⟨rfl, h2⟩ | ⟨b1, b2, h2⟩
    · rfl
    · omega
  · rcases h2 with ⟨rfl, h2⟩ | ⟨b1, b2, h2⟩
    · omega
    · rcases h1 with ⟨rfl, h1⟩ | ⟨rfl, h1⟩
      · rcases h2 with ⟨rfl, h2⟩ | ⟨rfl, h2⟩
        · rfl
        · exact absurd h2 h1
      · rcases h2 with ⟨rfl, h2⟩ | ⟨rfl, h2⟩
        · exact absurd h1 h2
        · rfl
theorem getE_cases (xs : List FileE) (p : ByteArray) : (∃ y ∈ xs, y.path = p ∧ getE xs p = (y.data, 0)) ∨ ((∀ y ∈ xs, y.path ≠ p) ∧ getE xs p = (⟨#[]⟩, 7)) := by
  unfold getE
  cases hf : xs.find? (fun x => decide (x.path = p)) with
  | none => exact .inr ⟨fun y hy e => absurd (List.find?_eq_none.1 hf y hy) (by simp [e]), rfl⟩
  | some y =>
    refine .inl ⟨y, List.mem_of_find?_eq_some hf, ?_, rfl⟩
    have := List.find?_some hf
    exact of_decide_eq_true this
theorem strict_inj : ∀ (ys : List FileE), (ys.Pairwise fun x y => x.path.data.toList < y.path.data.toList) → ∀ a ∈ ys, ∀ b ∈ ys, a.path = b.path → a = b := by
  intro ys h
  induction ys with
  | nil => intro a ha; simp at ha
  | cons y r ih =>
    obtain ⟨h3, h4⟩ := List.pairwise_cons.1 h
    intro a ha b hb he
    rcases List.mem_cons.1 ha with rfl | ha
    · rcases List.mem_cons.1 hb with rfl | hb
      · rfl
      · have := h3 b hb
        rw [he] at this; exact absurd this (List.lt_irrefl _)
    · rcases List.mem_cons.1 hb with hb | hb
      · have := h3 a ha
        rw [he, hb] at this; exact absurd this (List.lt_irrefl _)
      · exact ih h4 a ha b hb he
theorem getE_perm {xs ys : List FileE} (hp : ys.Perm xs) (hst : ys.Pairwise fun x y => x.path.data.toList < y.path.data.toList) (p : ByteArray) : getE xs p = getE ys p := by
  rcases getE_cases xs p with ⟨x, hx, h1, h2⟩ | ⟨h1, h2⟩
  · rcases getE_cases ys p with ⟨y, hy, h3, h4⟩ | ⟨h3, h4⟩
    · have := strict_inj ys hst x (hp.symm.subset hx) y hy (by rw [h1, h3])
      rw [h2, h4, this]
    · exact absurd h1 (h3 x (hp.symm.subset hx))
  · rcases getE_cases ys p with ⟨y, hy, h3, h4⟩ | ⟨h3, h4⟩
    · exact absurd h3 (h1 y (hp.subset hy))
    · rw [h2, h4]
theorem IsSnap.keepX {w w1 : World} {b : Nat} {l : Sl} {xs : List FileE} {size : Int} (h : IsSnap w b l xs size) {X : Nat → Prop} (hf : Fr X w w1) (h1 : ¬ X b) (h2 : ∀ x, l.a = some x → ¬ X x.block) : IsSnap w1 b l xs size :=
  ⟨hf.cell h.files h1, hf.cell h.size h1, h.len, h.reads.keep hf h2, h.small⟩
theorem addr_off (a : Addr) (i : Nat) : (a.add i).off = a.off + i := by
  unfold Addr.add
  split
  · omega
  · rfl
theorem addr_blk (a : Addr) (i : Nat) : (a.add i).block = a.block := by
  unfold Addr.add
  split <;> rfl
theorem addr_ne {a : Addr} {i j : Nat} (h : i ≠ j) : a.add i ≠ a.add j := fun e => by
  have := congrArg Addr.off e
  rw [addr_off, addr_off] at this
  omega
/-- The rows that the law spoils: their data stand, their paths can be written. -/
def RowsX (w : World) (l : Sl) (zs : List FileE) : Prop := ∀ i x, zs[i]? = some x → ∃ ad, l.a = some ad ∧ w.cell? ((ad.add (i * 2)).add 1) = some (.string x.data) ∧ (∃ v, w.cell? (ad.add (i * 2)) = some v) ∧ w.frozen? (ad.add (i * 2)) = false
theorem rowsX_of {w : World} {base : Nat} {e : TypeId} {l : Sl} {zs : List FileE} (h : OwnK encF 2 w base e l zs) : RowsX w l zs := fun i x hx => by
  obtain ⟨ad, had, hc⟩ := h.reads (fun _ => rfl) i x hx
  refine ⟨ad, had, hc 1 _ rfl, ⟨_, by have := hc 0 (.string x.path) rfl; rwa [add_add, Nat.add_zero] at this⟩, ?_⟩
  rcases h.2.2 with ⟨hv, hz⟩ | ⟨g, cap, cur, hv, _⟩
  · simp only [Value.slice.injEq] at hv
    rw [hv.1] at had; cases had
  · simp only [Value.slice.injEq] at hv
    obtain ⟨cur, hb, _⟩ := own_row h hv.1
    rw [hv.1] at had
    cases had
    rw [add_lit]
    exact frozen_blk hb _
theorem RowsX.set {w : World} {l : Sl} {zs : List FileE} (h : RowsX w l zs) {ad : Addr} (had : l.a = some ad) (k : Nat) (v : Value) : RowsX (w.setCell (ad.add (k * 2)) v) l zs := fun i x hx => by
  obtain ⟨ad', had', h1, ⟨u, h2⟩, h3⟩ := h i x hx
  rw [had] at had'
  cases had'
  refine ⟨ad, had, ?_, ?_, by rw [World.frozen?_setCell]; exact h3⟩
  · rw [World.cell?_setCell_other _ _ _ _ (by rw [add_add]; exact addr_ne (by omega))]; exact h1
  · by_cases hik : i = k
    · subst hik
      exact ⟨v, World.cell?_setCell_same' _ _ _ (by rw [h2]; rfl)⟩
    · exact ⟨u, by rw [World.cell?_setCell_other _ _ _ _ (addr_ne (by omega))]; exact h2⟩
/-- 'SnapReads'. -/
theorem snapReads_walk {a : Option Addr} {n c : Nat} {W : World} {xs : List FileE} (hr : ReadsK encF 2 W a xs) (hn : xs.length = n) (hc : n ≤ c) (hb : ∀ x ∈ xs, x.path.size ≤ reachBytes ∧ x.data.size ≤ reachBytes) (p f : ByteArray) (hps : p.size ≤ reachBytes) (hfs : f.size ≤ reachBytes) :
    Calls Tryd.prog F_cartularylaw07_SnapReads #[.slice a n c, .string p, .string f] W fun e w' => e = .returned (.bool true) ∧ RowKit.Below W.heap.size W w' := by
  refine vc_cartularylaw07_SnapReads_ok (R := fun v w' => v = .bool true ∧ Fr (fun _ => False) W w') ?_ (fun v w' h => ⟨by rw [h.1], (h.2.mono fun _ _ h => h.elim : Fr (fun k => W.heap.size ≤ k) W w').below (Nat.le_refl _)⟩)
  have hml : reachBytes ≤ 140737488355328 := by decide
  have few := fun {w : World} (h : Fr (fun _ => False) W w) => few07_spec (hr.keep h (by simp)) hn hc 200 (by decide)
  have hsub : ∀ x ∈ xs.take 200, x.path.size ≤ 140737488355328 ∧ x.data.size ≤ 140737488355328 := fun x hx => by have := hb x (List.mem_of_mem_take hx); omega
  have hl200 : (xs.take 200).length ≤ 200 := by rw [List.length_take]; omega
  generalize xs.take 200 = zs at few hsub hl200
  have htot := total_small zs fun x hx => (hsub x hx).2
  refine (few (.refl _ _)).mono ?_
  rintro e w2 ⟨l3, rfl, ho2, hf2⟩
  have hzl : zs.length = l3.len := ho2.1
  refine ⟨l3, rfl, (new_spec (ho2.reads fun _ => rfl) hzl (by omega) (by omega) (fun x hx => (hsub x hx).1) nilSort).mono ?_⟩
  rintro e w5 ⟨v, rfl, hf5, hR⟩
  have hv : ∃ (p6 : Option Addr) (n7 : Int), v = .tuple #[.pointer p6, .int .i64 n7] ∧ CheckR zs n7 ∧ (n7 ≠ 0 → p6 = none) ∧ (n7 = 0 → ∃ ys b l, p6 = some ⟨b, 0, none⟩ ∧ ys.Perm zs ∧ Rising ys ∧ NewOK ys ∧ (w2.heap.size ≤ b ∧ ∀ x, l.a = some x → w2.heap.size ≤ x.block) ∧ IsSnap w5 b l ys (totalF zs)) := by
    rcases hR with ⟨rfl, h⟩ | ⟨h1, h2, ys, hp, hris, h⟩
    · exact ⟨_, _, rfl, .inl ⟨rfl, h⟩, fun _ => rfl, fun h => absurd h (by decide)⟩
    · rcases h with ⟨hno, rfl⟩ | ⟨hok, b, l, rfl, hbw, hS⟩
      · exact ⟨_, _, rfl, .inr ⟨h1, h2, .inl ⟨rfl, fun h => hno ((check_new hris).2 ((checkOK_perm hp).2 h))⟩⟩, fun _ => rfl, fun h => absurd h (by decide)⟩
      · exact ⟨_, _, rfl, .inr ⟨h1, h2, .inr ⟨rfl, (checkOK_perm hp).1 ((check_new hris).1 hok)⟩⟩, fun h => absurd rfl h, fun _ => ⟨ys, b, l, rfl, hp, hris, hok, hbw, hS⟩⟩
  clear hR
  obtain ⟨p6, n7, rfl, hcn, hnone, hsome⟩ := hv
  have hf5' := hf2.trans' hf5
  refine ⟨p6, n7, rfl, (few hf5').mono ?_⟩
  rintro e w9 ⟨l10, rfl, ho9, hf9⟩
  refine ⟨l10, rfl, (rcheck_spec (ho9.reads fun _ => rfl) ho9.1 (by have := ho9.1; omega) (by omega) (fun x hx => (hsub x hx).1)).mono ?_⟩
  rintro e w12 ⟨m, rfl, hcm, hf12⟩
  have hnm := checkR_fun hcm hcn
  subst hnm
  refine ⟨m, rfl, (awake07_spec w12).mono ?_⟩
  rintro e w15 ⟨rfl, hf15⟩
  have hf15' := ((hf5'.trans' hf9).trans' hf12).trans' hf15
  refine ⟨_, rfl, fun h => (by cases h), fun _ => ⟨fun h => ?_, fun _ => (clean_spec p (by omega) w15).mono ?_⟩⟩
  · simp at h
  rintro e w18 ⟨rfl, hf18⟩
  refine ⟨_, rfl, (rclean_spec p (by omega) w18).mono ?_⟩
  rintro e w21 ⟨rfl, hf21⟩
  have hf21' := (hf15'.trans' hf18).trans' hf21
  have hf521 := ((((hf9).trans' hf12).trans' hf15).trans' hf18).trans' hf21
  refine ⟨_, rfl, fun h => ?_, fun _ => ⟨fun h => ?_, fun h => ?_⟩⟩
  · simp at h
  · rw [hnone (by intro e; rw [e] at h; simp at h)]
    exact ⟨rfl, hf21'⟩
  have h0 : m = 0 := by simpa using h
  obtain ⟨ys, b, l, rfl, hpm, hris, hok, hbw, hS⟩ := hsome h0
  have hst := strict_of hris hok
  have hcl := ok_clean hok
  have hsz : ∀ x ∈ ys, x.path.size ≤ 200 := fun x hx => (clean_parts (hcl x hx)).1
  have hyl : ys.length = zs.length := hpm.length_eq
  have ho21 := (ho2.keep hf5 (by simp)).keep hf521 (by simp)
  refine ⟨fun t i w' => ∃ k : Nat, i = k ∧ k ≤ zs.length ∧ t = (totalF (zs.take k) : Nat) ∧ RowsX w' l3 zs ∧ Fr (At l3) w21 w', fun _ i _ => zs.length - i.toNat, ⟨0, rfl, Nat.zero_le _, rfl, rowsX_of ho21, .refl _ _⟩, ?_⟩
  rintro t i w27 ⟨k, rfl, hk, rfl, hrx, hf27⟩
  have e1 : IntKind.i64.wrap ((k : Int) + 1) = ((k + 1 : Nat) : Int) := by rw [wrap_i64 (by omega) (by omega)]; omega
  rw [e1]
  refine ⟨fun hlt => ?_, fun hge => ?_⟩
  · have hlt := of_decide_eq_true hlt
    have hkl : k < zs.length := by omega
    have hx : zs[k]? = some zs[k] := List.getElem?_eq_getElem hkl
    generalize zs[k] = x at hx
    obtain ⟨ad, had, hc1, hw1, hz1⟩ := hrx k x hx
    have htt := totalF_take hx
    have hle := totalF_le zs (k + 1)
    refine ⟨⟨by omega, by omega⟩, ad, had, x.data, by rw [Int.toNat_natCast]; exact hc1, ⟨by omega, by omega⟩, ad, had, ?_⟩
    rw [Int.toNat_natCast]
    refine ⟨⟨hw1, hz1⟩, fun w31 h31 => ?_⟩
    subst h31
    refine ⟨⟨k + 1, rfl, by omega, ?_, hrx.set had k _, hf27.trans' (.set _ _ _ ⟨ad, had, addr_blk _ _⟩)⟩, by dsimp only; omega⟩
    rw [htt, wrap_i64 (by omega) (by omega)]; simp
  have hge := of_decide_eq_false hge
  have hk' : k = zs.length := by omega
  rw [hk', List.take_of_length_le (Nat.le_refl _)]
  have hat : ∀ {q}, At l3 q → W.heap.size ≤ q ∧ q < w2.heap.size := fun ⟨y, hy, e⟩ => by have := ho2.blk hy; omega
  have hS27 : IsSnap w27 b l ys (totalF zs) := (hS.keep hf521).keepX hf27 (fun h => by have := (hat h).2; have := hbw.1; omega) fun x hx h => by have := (hat h).2; have := hbw.2 x hx; omega
  have hf27' : Fr (fun _ => False) W w27 := hf21'.trans hf27 fun q hq h => by have := (hat h).1; omega
  refine (few hf27').mono ?_
  rintro e w33 ⟨l34, rfl, ho33, hf33⟩
  have hl34 : zs.length = l34.len := ho33.1
  refine ⟨l34, rfl, (get_spec (hS27.keep hf33) hris p).mono ?_⟩
  rintro e w36 ⟨rfl, hf36⟩
  have hr36 := (ho33.reads fun _ => rfl).keep hf36 (by simp)
  refine ⟨_, _, rfl, (rget_spec hr36 hl34 (by omega) p).mono ?_⟩
  rintro e w40 ⟨rfl, hf40⟩
  rw [getE_perm hpm hst p]
  have hS40 := ((hS27.keep hf33).keep hf36).keep hf40
  have hr40 := hr36.keep hf40 (by simp)
  refine ⟨_, _, rfl, (list_spec hS40 hris (fun x hx => by have := hsz x hx; omega) p (by omega)).mono ?_⟩
  rintro e w44 ⟨l45, rfl, ho44, hf44⟩
  refine ⟨l45, _, rfl, (rlist_spec (hr40.keep hf44 (by simp)) hl34 (by omega) hpm hst hsz p (by omega)).mono ?_⟩
  rintro e w48 ⟨l49, rfl, ho48, hf48⟩
  have hll : (listE ys p).1.length ≤ 1000000 := by
    unfold listE
    have h1 := namesE_len (frontE p) (underE ys (frontE p))
    have h2 := List.length_filter_le (fun x => begB x.path (frontE p)) ys
    have h3 : (underE ys (frontE p)).length ≤ ys.length := by unfold underE; rw [List.length_map]; exact h2
    split
    · exact Nat.zero_le _
    · split
      · exact Nat.zero_le _
      · show (namesE _ _).length ≤ _; omega
  generalize listE ys p = LE at ho44 ho48 hll
  have hS48 := (hS40.keep hf44).keep hf48
  have hf48' := ((((hf27'.trans' hf33).trans' hf36).trans' hf40).trans' hf44).trans' hf48
  have hr48 := (hr40.keep hf44 (by simp)).keep hf48 (by simp)
  refine ⟨l49, _, rfl, (len_spec hS48).mono ?_⟩
  rintro e w52 ⟨rfl, hw⟩
  replace hw := hw.symm
  subst hw
  refine ⟨_, rfl, fun _ => (size_spec hS48).mono ?_, fun h => ?_⟩
  rotate_left
  · rw [hyl, hl34] at h; simp at h
  rintro e w55 ⟨rfl, hw⟩
  replace hw := hw.symm
  subst hw
  have tail : Calls Tryd.prog F_cartularyref07_Same #[.slice l45.a l45.len l45.cap, .slice l49.a l49.len l49.cap] w48 fun e57 w58 => ∃ b59, e57 = .returned (.bool b59) ∧ (b59 = true ∧ Drew w48 w58) := by
    refine (same07_spec (ho44.keep hf48 (by simp)).reads ho48.reads (by rw [ho44.len]; simp [strV]) (by rw [ho48.len]; simp [strV]) (by rw [ho44.len]; simpa [strV] using hll)).mono ?_
    rintro e w58 ⟨⟨b, rfl, hb⟩, d⟩
    exact ⟨b, rfl, hb.2 rfl, d⟩
  have under : ∀ {w58}, Drew w48 w58 → Calls Tryd.prog F_snap_Snap_Under #[.pointer (some ⟨b, 0, none⟩), .string f] w58 fun e60 w61 => ∃ l62 : Sl, e60 = .returned (.slice l62.a l62.len l62.cap) ∧
      Calls Tryd.prog F_cartularyref07_Under #[.slice l34.a l34.len l34.cap, .string f] w61 fun e63 w64 => ∃ l65 : Sl, e63 = .returned (.slice l65.a l65.len l65.cap) ∧
      Calls Tryd.prog F_cartularyref07_Same #[.slice l62.a l62.len l62.cap, .slice l65.a l65.len l65.cap] w64 fun e66 w67 => ∃ b68, e66 = .returned (.bool b68) ∧ (Value.bool b68 = .bool true ∧ Fr (fun _ => False) W w67) := fun {w58} d => by
    have hf58 : Fr (fun _ => False) w48 w58 := .drew _ d
    refine (under_spec (hS48.keep hf58) hris f).mono ?_
    rintro e w61 ⟨l62, rfl, ho61, hf61⟩
    refine ⟨l62, rfl, (runder_spec ((hr48.keep hf58 (by simp)).keep hf61 (by simp)) hl34 (by omega) f).mono ?_⟩
    rintro e w64 ⟨l65, rfl, ho64, hf64⟩
    rw [rUnder_under hpm hst] at ho64
    have hul : (underE ys f).length ≤ ys.length := by
      unfold underE; rw [List.length_map]; exact List.length_filter_le _ _
    refine ⟨l65, rfl, (same07_spec (ho61.keep hf64 (by simp)).reads ho64.reads (by rw [ho61.len]; simp [strV]) (by rw [ho64.len]; simp [strV]) (by rw [ho61.len]; simp [strV]; omega)).mono ?_⟩
    rintro e w67 ⟨⟨b, rfl, hb⟩, d⟩
    exact ⟨b, rfl, by rw [hb.2 rfl], (((hf48'.trans' hf58).trans' hf61).trans' hf64).trans' (.drew _ d)⟩
  refine ⟨_, rfl, fun _ => ⟨fun _ => ⟨fun _ => ⟨fun hb => ?_, fun hb => ⟨fun _ => ?_, fun h => ?_⟩⟩, fun h => ?_⟩, fun h => ?_⟩, fun h => ?_⟩
  · refine tail.mono ?_
    rintro e w58 ⟨b59, rfl, rfl, d⟩
    exact ⟨_, rfl, fun _ => ⟨fun _ => under d, fun h => by simp at h⟩, fun h => (by cases h)⟩
  · refine tail.mono ?_
    rintro e w58 ⟨b59, rfl, rfl, d⟩
    exact ⟨_, rfl, fun _ => ⟨fun _ => under d, fun h => by simp at h⟩, fun h => (by cases h)⟩
  · rcases getE_cases ys p with ⟨y, _, _, h4⟩ | ⟨_, h4⟩
    · rw [h4] at hb; simp at hb
    · rw [h4] at h; simp at h
  · rcases getE_cases ys p with ⟨y, _, _, h4⟩ | ⟨_, h4⟩ <;> · rw [h4] at h; simp at h
  · rw [bs_eq] at h; simp at h
  · simp at h
end Go.Proofs.YtmihbbgojkbaeaaDoor
