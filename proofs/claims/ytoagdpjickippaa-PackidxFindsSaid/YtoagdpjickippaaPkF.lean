/- An index that is built is read back; the law's awake; each row is found. Conditions: as named. -/
import Derived.Test.YtoagdpjickippaaPkC
import Derived.Test.YtoagdpjickippaaPkQ
import Derived.Test.YtoagdpjickippaaLaw12A
import Derived.Test.YtoagdpjickippaaLaw12F
set_option linter.unusedVariables false
namespace Go.Proofs.Ytoagdpjickippaa
open Go Vc HexM SumM ShaM Go.Proofs

theorem text_len {rs : List PRow} {sum : ByteArray} (hc : CheckP rs) (hf : ∀ r ∈ rs, Fits r) (hi : isId sum.data.toList = true) (hl : rs.length ≤ 1000) (far : Int) :
    (PkM.textT sha1D far ((sortP rs).map rawOf) (rawB sum)).length = 1072 + 28 * rs.length + 8 * (((sortP rs).map rawOf).filter (PkM.isFar far)).length ∧ PkM.Good ((sortP rs).map rawOf) ∧ RiseP (sortP rs) := by
  have hp := sortP_perm rs
  have hchk := checkP_perm hp.symm hc
  have hrise := near_rise (sortP_near rs) hchk.2
  have hgood := raw_good hchk hrise (fun r hr => hf r (hp.subset hr)) (by rw [hp.length_eq]; exact hl)
  obtain ⟨_, _, _, _, _, q6⟩ := PkM.body_parts (far := far) hgood (rawB_id hi).2.1
  refine ⟨?_, hgood, hrise⟩
  unfold PkM.textT
  rw [List.length_append, q6, digest_len, List.length_map, hp.length_eq]; omega
set_option maxRecDepth 100000 in
theorem parse_build {rs : List PRow} {sum : ByteArray} (hc : CheckP rs) (hf : ∀ r ∈ rs, Fits r) (hi : isId sum.data.toList = true) (hl : rs.length ≤ 1000) (far : Int) (w : World) :
    Calls Try.prog F_packidx_Parse #[.string ⟨(PkM.textT sha1D far ((sortP rs).map rawOf) (rawB sum)).toArray⟩] w fun e w' => ∃ b, e = .returned (.tuple #[.pointer (some ⟨b, 0, none⟩), .int .i64 0]) ∧ IsIdx w' b (sortP rs) sum ∧ Fr (fun _ => False) w w' := by
  obtain ⟨h1, hgood, hrise⟩ := text_len hc hf hi hl far
  have hfl := List.length_filter_le (PkM.isFar far) ((sortP rs).map rawOf)
  have hgl := hgood.few
  refine (parse_spec _ (by rw [bs_mksize, h1]; omega) w).mono ?_
  rintro e w' ⟨v, rfl, hF, hR⟩
  have hp := sortP_perm rs
  have hchk := checkP_perm hp.symm hc
  rw [bs_mk, PkM.parse_text hgood (rawB_id hi).2.1 digest_len] at hR
  simp only at hR
  rw [raw_back hchk (fun r hr => hf r (hp.subset hr))] at hR
  obtain ⟨b, rfl, _, hI⟩ := hR
  have hs : (⟨(hexL (rawB sum)).toArray⟩ : ByteArray) = sum := bs_ext (by rw [bs_mk]; exact (rawB_id hi).2.2)
  rw [hs] at hI
  exact ⟨b, rfl, hI, hF⟩
def awR : PRow := (⟨#[101, 54, 57, 100, 101, 50, 57, 98, 98, 50, 100, 49, 100, 54, 52, 51, 52, 98, 56, 98, 50, 57, 97, 101, 55, 55, 53, 97, 100, 56, 99, 50, 101, 52, 56, 99, 53, 51, 57, 49]⟩, 12, 7)
def awS : ByteArray := ⟨#[52, 98, 56, 50, 53, 100, 99, 54, 52, 50, 99, 98, 54, 101, 98, 57, 97, 48, 54, 48, 101, 53, 52, 98, 102, 56, 100, 54, 57, 50, 56, 56, 102, 98, 101, 101, 52, 57, 48, 52]⟩
theorem aw_ids : (isId awR.1.data.toList && isId awS.data.toList) = true := by decide +kernel
theorem aw_check : CheckP [awR] := by
  refine ⟨fun r hr => ?_, List.pairwise_singleton _ _⟩
  rw [List.mem_singleton.1 hr]
  exact ⟨(Bool.and_eq_true_iff.1 aw_ids).1, by decide, by decide⟩
theorem reads_blkP {w : World} {g : Nat} {cs : Array Value} {e : TypeId} {fz : Nat × Nat} (h : w.heap[g]? = some (.cells cs e fz)) {xs : List PRow} (hc : cs.toList = xs.flatMap encP) : ReadsK encP 3 w (some ⟨g, 0, none⟩) xs := fun i x hx => by
  refine ⟨_, rfl, fun j v hv => ?_⟩
  rw [add_lit, add_lit, cell_blk h, Nat.zero_add, ← Array.getElem?_toList, hc]
  exact flat_get (enc := encP) (k := 3) (fun _ => rfl) xs i x j v hx hv
theorem awake12_spec (w : World) : Calls Try.prog F_cartularylaw12_awake #[] w fun e w' => e = .returned (.bool true) ∧ Fr (fun _ => False) w w' := by
  refine vc_cartularylaw12_awake_ok (R := fun v w' => v = .bool true ∧ Fr (fun _ => False) w w') ?_ (fun v w' h => ⟨by rw [h.1], h.2⟩)
  intro w1 h1
  have hf1 : Fr (fun _ => False) w w1 := by rw [h1]; exact .alloc _ _ _
  have hr1 : ReadsK encP 3 w1 (some ⟨w.heap.size, 0, none⟩) [awR] := reads_blkP (by rw [h1]; exact alloc_new _ _) rfl
  clear h1
  have hfit : ∀ r ∈ [awR], Fits r := fun r hr => by rw [List.mem_singleton.1 hr]; exact ⟨by decide, by decide⟩
  have hid := (Bool.and_eq_true_iff.1 aw_ids).2
  refine (build_spec hr1 rfl (fun r hr => by rw [List.mem_singleton.1 hr]; decide) hfit awS (by decide) 0).mono ?_
  rintro e w3 ⟨v, rfl, hf3, hR⟩
  rcases hR with ⟨_, h⟩ | ⟨_, ⟨_, h⟩ | ⟨rfl, _, _⟩⟩
  · exact absurd h (by decide)
  · exact absurd ⟨aw_check, hid⟩ h
  obtain ⟨hlen, _, hrise⟩ := text_len aw_check hfit hid (by decide) 0
  have hsort : sortP [awR] = [awR] := rfl
  refine ⟨_, _, rfl, (parse_build aw_check hfit hid (by decide) 0 w3).mono ?_⟩
  rintro e w7 ⟨b, rfl, hI, hf7⟩
  have hF7 := (hf1.trans' hf3).trans' hf7
  rw [hsort] at hI hrise hlen ⊢
  have hsz : (⟨(PkM.textT sha1D 0 ([awR].map rawOf) (rawB awS)).toArray⟩ : ByteArray).size = 1108 := by
    rw [bs_mksize, hlen]; rfl
  refine ⟨_, _, rfl, fun h => absurd h (by decide), fun _ => ⟨fun h => absurd h (by decide), fun _ => ⟨fun h => (by cases h), fun _ => ⟨fun h => ?_, fun _ => (findP_spec hI (by decide) hrise awR.1).mono ?_⟩⟩⟩⟩
  · rw [hsz] at h; exact absurd h (by decide)
  have hfd : findP [awR] awR.1 = some awR := by unfold findP; simp
  rw [hfd]
  rintro e w11 ⟨rfl, hf11⟩
  refine ⟨_, _, _, _, rfl, fun w16 h16 => ?_⟩
  subst h16
  have hfa : Fr (fun _ => False) w11 (w11.alloc (.cells (encP awR).toArray T_packidx_Row)) := .alloc _ _ _
  refine ⟨_, boxP_run w11 awR, fun _ => ⟨_, boxP_cell w11 awR (.refl (fun _ => False) _) (by simp) (j := 1) rfl, fun _ => ⟨_, boxP_cell w11 awR (.refl (fun _ => False) _) (by simp) (j := 2) rfl, fun _ => (len_spec ((hI.keep hf11).keep hfa)).mono ?_, fun h => absurd h (by decide)⟩, fun h => absurd h (by decide)⟩, fun h => absurd h (by decide)⟩
  rintro e w21 ⟨rfl, hw⟩
  replace hw := hw.symm
  subst hw
  exact ⟨_, rfl, rfl, (hF7.trans' hf11).trans' hfa⟩
theorem match_mem {ys : List PRow} {x : PRow} {f : ByteArray} (hx : x ∈ ys) (hb : begB x.1 f = true) : x.1 ∈ matchP ys f := by
  unfold matchP
  exact List.mem_map.2 ⟨x, List.mem_filter.2 ⟨hx, hb⟩, rfl⟩
theorem match_rise {ys : List PRow} (h : RiseP ys) (f : ByteArray) : (matchP ys f).Pairwise fun x y => x.data.toList < y.data.toList := by
  unfold matchP
  rw [List.pairwise_map]
  exact h.sublist List.filter_sublist
theorem id_begins {s : ByteArray} (h : isId s.data.toList = true) : begB s ⟨#[103]⟩ = false := by
  unfold begB
  refine decide_eq_false fun hp => ?_
  have h1 := h
  unfold isId at h1
  rw [Bool.and_eq_true, unhexL_iff, Bool.and_eq_true] at h1
  have hm : (103 : UInt8) ∈ s.data.toList := hp.subset (by simp)
  have := List.all_eq_true.1 h1.1.1 103 hm
  revert this; decide
theorem finds_walk {a : Option Addr} {n c : Nat} {W : World} {xs : List PRow} (hr : ReadsK encP 3 W a xs) (hn : xs.length = n) (hc : n ≤ c) (hz : ∀ x ∈ xs, x.1.size ≤ 140737488355328) (hfit : ∀ x ∈ xs, Fits x) (sum : ByteArray) (hs : sum.size ≤ 140737488355328) (m : Int) :
    Calls Try.prog F_cartularylaw12_PackidxFinds #[.slice a n c, .string sum, .int .i64 m] W fun e w' => e = .returned (.bool true) ∧ RowKit.Below W.heap.size W w' := by
  refine vc_cartularylaw12_PackidxFinds_ok (R := fun v w' => v = .bool true ∧ Fr (fun _ => False) W w') ?_ (fun v w' h => ⟨by rw [h.1], (h.2.mono fun _ _ h => h.elim : Fr (fun k => W.heap.size ≤ k) W w').below (Nat.le_refl _)⟩)
  refine ⟨fun l w' => w' = W ∧ ReadsK encP 3 W l.a (xs.take 30) ∧ (xs.take 30).length = l.len ∧ l.len ≤ l.cap, ⟨fun h => ⟨⟨by decide, by have := of_decide_eq_true h; omega⟩, rfl, ?_, ?_, ?_⟩, fun h => ⟨rfl, ?_, ?_, hc⟩⟩, ?_⟩
  · have hs := hr.sub (cap := c) (by omega) 0
    rw [List.drop_zero] at hs
    exact hs.take 30
  · have := of_decide_eq_true h
    rw [List.length_take]
    show _ = 30
    omega
  · have := of_decide_eq_true h
    show 30 ≤ c
    omega
  · exact hr.take 30
  · have := of_decide_eq_false h
    rw [List.length_take]
    show _ = n
    omega
  rintro l w3 ⟨hw, hrr, hrl, hlc⟩
  replace hw := hw.symm
  subst hw
  have hl30 : (xs.take 30).length ≤ 30 := by rw [List.length_take]; omega
  have hz' : ∀ x ∈ xs.take 30, x.1.size ≤ 140737488355328 := fun x hx => hz x (List.mem_of_mem_take hx)
  have hf' : ∀ x ∈ xs.take 30, Fits x := fun x hx => hfit x (List.mem_of_mem_take hx)
  generalize xs.take 30 = rs at hrr hrl hl30 hz' hf'
  refine (build_spec hrr hrl hz' hf' sum hs 2147483648).mono ?_
  rintro e w5 ⟨v, rfl, hf5, hR⟩
  rcases hR with ⟨_, h⟩ | ⟨_, ⟨rfl, h⟩ | ⟨rfl, hchk, hid⟩⟩
  · omega
  · refine ⟨_, _, rfl, fun _ => (awake12_spec w5).mono ?_, fun h => absurd h (by decide)⟩
    rintro e w9 ⟨rfl, hf9⟩
    refine ⟨true, rfl, fun _ => ⟨?_, hf5.trans' hf9⟩, fun h => by cases h⟩
    rw [bs_eq, decide_eq_true rfl]
  obtain ⟨hlen, _, hrise⟩ := text_len hchk hf' hid (by omega) 2147483648
  refine ⟨_, _, rfl, fun h => absurd h (by decide), fun _ => (parse_build hchk hf' hid (by omega) 2147483648 w5).mono ?_⟩
  rintro e w12 ⟨b, rfl, hI, hf12⟩
  have hF12 := hf5.trans' hf12
  have hp := sortP_perm rs
  have hyl : (sortP rs).length = rs.length := hp.length_eq
  have hyc := checkP_perm hp.symm hchk
  have hmem : ∀ x ∈ rs, x ∈ sortP rs := fun x hx => hp.symm.subset hx
  generalize sortP rs = ys at hI hrise hyl hyc hmem
  have hrr12 := hrr.keep hF12 (by simp)
  refine ⟨_, _, rfl, fun h => absurd h (by decide), fun _ => ⟨fun h => (by cases h), fun _ => ?_⟩⟩
  refine ⟨fun i w' => ∃ k : Nat, i = k ∧ k ≤ rs.length ∧ Fr (fun _ => False) w12 w', fun i _ => rs.length - i.toNat, ⟨0, rfl, Nat.zero_le _, .refl _ _⟩, ?_⟩
  rintro i w18 ⟨k, rfl, hk, hf18⟩
  have e1 : IntKind.i64.wrap ((k : Int) + 1) = ((k + 1 : Nat) : Int) := by rw [wrap_i64 (by omega) (by omega)]; omega
  rw [e1]
  refine ⟨fun hlt => ?_, fun hge => ?_⟩
  · have hlt := of_decide_eq_true hlt
    have hkl : k < rs.length := by omega
    have hx : rs[k]? = some rs[k] := List.getElem?_eq_getElem hkl
    have hxm : rs[k] ∈ rs := List.getElem_mem hkl
    generalize rs[k] = x at hx hxm
    have hxy := hmem x hxm
    obtain ⟨ox1, ox2, ox3⟩ := hchk.1 x hxm
    have hx40 : x.1.size = 40 := by
      have := ox1
      unfold isId at this
      rw [Bool.and_eq_true] at this
      have := eq_of_beq this.2
      rw [bs_len] at this; exact this
    obtain ⟨ad, had, hload⟩ := (hrr12.keep hf18 (by simp)).load elP hx
    refine ⟨⟨by omega, by omega⟩, ad, had, x.1, x.2.1, x.2.2, by rw [Int.toNat_natCast]; exact hload, fun w23 h23 => ?_⟩
    subst h23
    have hfa : Fr (fun _ => False) w18 (w18.alloc (.cells (encP x).toArray T_packidx_Row)) := .alloc _ _ _
    have hb1 : (w18.alloc (.cells (encP x).toArray T_packidx_Row)).heap[w18.heap.size]? = some (.cells (encP x).toArray T_packidx_Row (0, 0)) := alloc_new _ _
    refine ⟨_, boxP_run w18 x, x.1, by rw [cell_blk hb1]; rfl, ?_⟩
    generalize w18.alloc (.cells (encP x).toArray T_packidx_Row) = w24 at hfa hb1
    generalize w18.heap.size = g at hb1
    have hf24 := hf18.trans' hfa
    refine (findP_spec (hI.keep hf24) (by omega) hrise x.1).mono ?_
    have hfd : findP ys x.1 = some x := by
      unfold findP
      cases h : ys.find? (fun y => decide (y.1 = x.1)) with
      | none =>
        rw [List.find?_eq_none] at h
        exact absurd (decide_eq_true rfl) (h x hxy)
      | some y =>
        have hy1 := List.mem_of_find?_eq_some h
        have hy2 : y.1 = x.1 := by simpa using List.find?_some h
        obtain ⟨i1, hi1⟩ := List.mem_iff_getElem?.1 hy1
        obtain ⟨i2, hi2⟩ := List.mem_iff_getElem?.1 hxy
        rcases Nat.lt_trichotomy i1 i2 with h3 | h3 | h3
        · have := (List.pairwise_iff_getElem.1 hrise) i1 i2 (List.getElem?_eq_some_iff.1 hi1).1 (List.getElem?_eq_some_iff.1 hi2).1 h3
          rw [(List.getElem?_eq_some_iff.1 hi1).2, (List.getElem?_eq_some_iff.1 hi2).2, hy2] at this
          exact absurd this (List.lt_irrefl _)
        · subst h3; rw [hi1] at hi2; exact hi2
        · have := (List.pairwise_iff_getElem.1 hrise) i2 i1 (List.getElem?_eq_some_iff.1 hi2).1 (List.getElem?_eq_some_iff.1 hi1).1 h3
          rw [(List.getElem?_eq_some_iff.1 hi1).2, (List.getElem?_eq_some_iff.1 hi2).2, hy2] at this
          exact absurd this (List.lt_irrefl _)
    rw [hfd]
    rintro e w27 ⟨rfl, hf27⟩
    have hb27 := hf27.keep hb1 (by simp)
    have hf27' := hf24.trans' hf27
    refine ⟨_, _, _, _, rfl, fun w32 h32 => ?_⟩
    subst h32
    have hfa2 : Fr (fun _ => False) w27 (w27.alloc (.cells (encP x).toArray T_packidx_Row)) := .alloc _ _ _
    have hb2 : (w27.alloc (.cells (encP x).toArray T_packidx_Row)).heap[w27.heap.size]? = some (.cells (encP x).toArray T_packidx_Row (0, 0)) := alloc_new _ _
    have hb33 := hfa2.keep hb27 (by simp)
    refine ⟨_, boxP_run w27 x, x.1, by rw [cell_blk hb33]; rfl, ?_⟩
    generalize w27.alloc (.cells (encP x).toArray T_packidx_Row) = w33 at hfa2 hb2 hb33
    generalize w27.heap.size = g2 at hb2
    have hf33 := hf27'.trans' hfa2
    obtain ⟨q, hq, hq40⟩ : ∃ q : Nat, (if (if 40 < m then (40 : Int) else m) > 0 then (if 40 < m then (40 : Int) else m) else 0) = (q : Int) ∧ q ≤ 40 := by
      refine ⟨(if (if 40 < m then (40 : Int) else m) > 0 then (if 40 < m then (40 : Int) else m) else 0).toNat, ?_, ?_⟩
      · split <;> (try split) <;> omega
      · split <;> (try split) <;> omega
    rw [hq, Int.toNat_natCast]
    refine ⟨⟨by omega, by omega⟩, (matchP_spec (hI.keep hf33) (by omega) hrise (x.1.extract 0 q)).mono ?_⟩
    have hbeg : begB x.1 (x.1.extract 0 q) = true := by
      unfold begB
      rw [bs_head]
      exact decide_eq_true (List.take_prefix _ _)
    have hin := match_mem hxy hbeg
    have hmr := match_rise hrise (x.1.extract 0 q)
    rintro e w36 ⟨l37, rfl, ho36, hf36⟩
    have hml : (matchP ys (x.1.extract 0 q)).length ≤ 30 := by
      unfold matchP
      rw [List.length_map]
      have := List.length_filter_le (fun y : PRow => begB y.1 (x.1.extract 0 q)) ys
      omega
    generalize matchP ys (x.1.extract 0 q) = us at hin hmr ho36 hml
    have hul : l37.len = us.length := by rw [ho36.len]; simp [strV]
    have hur := ho36.reads
    have hb36 := hf36.keep hb33 (by simp)
    have hb236 := hf36.keep hb2 (by simp)
    have hf36' := hf33.trans' hf36
    refine ⟨l37, rfl, fun bb j w' => w' = w36 ∧ ∃ p : Nat, j = p ∧ p ≤ us.length ∧ (bb = true ↔ x.1 ∈ us.take p), fun _ j _ => us.length - j.toNat, ⟨rfl, 0, rfl, Nat.zero_le _, by simp⟩, ?_⟩
    rintro bb j w42 ⟨hw, p, rfl, hp, hbb⟩
    replace hw := hw.symm
    subst hw
    have e2 : IntKind.i64.wrap ((p : Int) + 1) = ((p + 1 : Nat) : Int) := by rw [wrap_i64 (by omega) (by omega)]; omega
    rw [e2]
    refine ⟨fun hlt2 => ?_, fun hge2 => ?_⟩
    · have hlt2 := of_decide_eq_true hlt2
      have hpl : p < us.length := by omega
      have hy : us[p]? = some us[p] := List.getElem?_eq_getElem hpl
      have hlast : 0 < p → ∃ z, us[p - 1]? = some z ∧ z.data.toList < us[p].data.toList := fun h0 => ⟨us[p - 1], List.getElem?_eq_getElem (by omega), (List.pairwise_iff_getElem.1 hmr) (p - 1) p (by omega) hpl (by omega)⟩
      generalize us[p] = y at hy hlast
      have htk : us.take (p + 1) = us.take p ++ [y] := by rw [List.take_add_one, hy]; rfl
      obtain ⟨ad', had', hcy⟩ := hur p (.string y) (by simp [strV, hy])
      refine ⟨⟨by omega, by omega⟩, ad', had', y, by rw [Int.toNat_natCast, Nat.mul_one]; exact hcy, fun b47 w' => w' = w36 ∧ (b47 = true ↔ x.1 ∈ us.take (p + 1)), ⟨fun h => ⟨rfl, ?_⟩, fun h => ⟨x.1, by rw [cell_blk hb36]; rfl, rfl, ?_⟩⟩, ?_⟩
      · rw [htk]
        exact ⟨fun _ => List.mem_append_left _ (hbb.1 h), fun _ => rfl⟩
      · rw [bs_eq, decide_eq_true_eq, htk, List.mem_append, List.mem_singleton]
        refine ⟨fun e => .inr e.symm, fun e => ?_⟩
        rcases e with e | e
        · rw [hbb.2 e] at h; cases h
        · exact e.symm
      rintro b47 w48 ⟨hw, hb47⟩
      replace hw := hw.symm
      subst hw
      refine ⟨fun h0 => ?_, fun h0 => ⟨⟨rfl, p + 1, rfl, by omega, hb47⟩, by dsimp only; omega⟩⟩
      have h0 : 0 < p := by have := of_decide_eq_true h0; omega
      have e3 : IntKind.i64.wrap ((p : Int) - 1) = ((p - 1 : Nat) : Int) := by rw [wrap_i64 (by omega) (by omega)]; omega
      rw [e3]
      obtain ⟨z, hz, hlt3⟩ := hlast h0
      obtain ⟨ad2, had2, hcz⟩ := hur (p - 1) (.string z) (by simp [strV, hz])
      refine ⟨⟨by omega, by omega⟩, ad2, had2, z, by rw [Int.toNat_natCast, Nat.mul_one]; exact hcz, fun h => ?_, fun _ => ⟨⟨rfl, p + 1, rfl, by omega, hb47⟩, by dsimp only; omega⟩⟩
      rw [ByteArray.toList_eq, ByteArray.toList_eq, Proofs.bytesLess_eq, decide_eq_true hlt3] at h
      cases h
    · have hge2 := of_decide_eq_false hge2
      have hp' : p = us.length := by omega
      rw [hp', List.take_length] at hbb
      have hbt := hbb.2 hin
      refine ⟨fun h => absurd h (by decide), fun _ => ⟨_, _, _, boxP_load hb236, _, _, _, boxP_load hb36, fun h => ?_, fun _ => ⟨fun h => ?_, fun _ => ⟨⟨k + 1, rfl, by omega, hf36'⟩, by dsimp only; omega⟩⟩⟩⟩
      · rw [bs_eq, decide_eq_true rfl, beq_self_eq_true, beq_self_eq_true] at h
        cases h
      · rw [hbt] at h; cases h
  · have hge := of_decide_eq_false hge
    refine (awake12_spec w18).mono ?_
    rintro e w58 ⟨rfl, hf58⟩
    have hf58' := hf18.trans' hf58
    refine ⟨true, rfl, fun _ => (matchP_spec (hI.keep hf58') (by omega) hrise ⟨#[103]⟩).mono ?_, fun h => by cases h⟩
    rintro e w61 ⟨l62, rfl, ho61, hf61⟩
    have hg : matchP ys ⟨#[103]⟩ = [] := by
      unfold matchP
      rw [List.filter_eq_nil_iff.2 fun y hy => by rw [id_begins (hyc.1 y hy).1]; decide]; rfl
    rw [hg] at ho61
    have hl0 : l62.len = 0 := by rw [ho61.len]; rfl
    have hf61' := hf58'.trans' hf61
    refine ⟨l62, rfl, fun _ => (matchP_spec (hI.keep hf61') (by omega) hrise ⟨#[]⟩).mono ?_, fun h => by rw [hl0] at h; simp at h⟩
    rintro e w64 ⟨l65, rfl, ho64, hf64⟩
    have hall : (matchP ys ⟨#[]⟩).length = ys.length := by
      unfold matchP
      rw [List.length_map, List.filter_eq_self.2 fun y _ => by unfold begB; exact decide_eq_true List.nil_prefix]
    have hl65 : l65.len = l.len := by rw [ho64.len]; simp only [strV, List.length_map]; omega
    exact ⟨l65, rfl, by rw [hl65, beq_self_eq_true], (hF12.trans' hf61').trans' hf64⟩
end Go.Proofs.Ytoagdpjickippaa
