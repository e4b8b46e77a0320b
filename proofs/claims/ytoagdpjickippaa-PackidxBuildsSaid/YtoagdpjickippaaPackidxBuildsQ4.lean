/- Texts of this seat in one: made by a program of ours. -/
import Derived.Test.YtoagdpjickippaaPackidxBuildsQ0
import Derived.Test.YtoagdpjickippaaPackidxBuildsQ1
import Derived.Test.YtoagdpjickippaaPackidxBuildsQ3
import Derived.Test.YtoagdpjickippaaProg
import Derived.Deep.Slices
import Derived.Deep.Fields
import Derived.ChangeSame
import Derived.SizedLaws
import Derived.Test.YtoagdpjickippaaRows
import Derived.WalkKit
import Derived.ProofKit
import Derived.OpenShut
import Derived.ShutString
import Derived.ChangeOld
import Derived.Below
/- An index that is built is read back; the law's awake; each row is found. Conditions: as named. -/
set_option linter.unusedVariables false
namespace Go.Proofs.Ytoagdpjickippaa
open Go Vc HexM SumM ShaM Go.Proofs

theorem text_len {rs : List PRow} {sum : ByteArray} (hc : CheckP rs) (hf : ∀ r ∈ rs, Fits r) (hi : isId sum.data.toList = true) (hl : rs.length ≤ 1000) (far : Int) :
    (PkM.textT sha1D far ((sortP rs).map rawOf) (rawB sum)).length = 1072 + 28 * rs.length + 8 * (((sortP rs).map rawOf).filter (PkM.isFar far)).length ∧ PkM.Good ((sortP rs).map rawOf) ∧ RiseP (sortP rs) := by
  have hp := sortP_perm rs
  have hchk := checkP_perm hp.symm hc
  have hrise := near_rise (sortP_near rs) hchk.2
  have hgood := raw_good hchk hrise (fun r hr => hf r (hp.subset hr)) (by rw [hp.length_eq]; exact hl)
  obtain ⟨_, _, _, _, _, q6⟩ := PkM.body_parts (far := far) hgood (rawB_id hi).2.1
  refine ⟨?_, hgood, hrise⟩
  unfold PkM.textT
  rw [List.length_append, q6, digest_len, List.length_map, hp.length_eq]; omega
set_option maxRecDepth 100000 in
theorem parse_build {rs : List PRow} {sum : ByteArray} (hc : CheckP rs) (hf : ∀ r ∈ rs, Fits r) (hi : isId sum.data.toList = true) (hl : rs.length ≤ 1000) (far : Int) (w : World) :
    Calls Try.prog F_packidx_Parse #[.string ⟨(PkM.textT sha1D far ((sortP rs).map rawOf) (rawB sum)).toArray⟩] w fun e w' => ∃ b, e = .returned (.tuple #[.pointer (some ⟨b, 0, none⟩), .int .i64 0]) ∧ IsIdx w' b (sortP rs) sum ∧ Fr (fun _ => False) w w' := by
  obtain ⟨h1, hgood, hrise⟩ := text_len hc hf hi hl far
  have hfl := List.length_filter_le (PkM.isFar far) ((sortP rs).map rawOf)
  have hgl := hgood.few
  refine (parse_spec _ (by rw [bs_mksize, h1]; omega) w).mono ?_
  rintro e w' ⟨v, rfl, hF, hR⟩
  have hp := sortP_perm rs
  have hchk := checkP_perm hp.symm hc
  rw [bs_mk, PkM.parse_text hgood (rawB_id hi).2.1 digest_len] at hR
  simp only at hR
  rw [raw_back hchk (fun r hr => hf r (hp.subset hr))] at hR
  obtain ⟨b, rfl, _, hI⟩ := hR
  have hs : (⟨(hexL (rawB sum)).toArray⟩ : ByteArray) = sum := bs_ext (by rw [bs_mk]; exact (rawB_id hi).2.2)
  rw [hs] at hI
  exact ⟨b, rfl, hI, hF⟩
def awR : PRow := (⟨#[101, 54, 57, 100, 101, 50, 57, 98, 98, 50, 100, 49, 100, 54, 52, 51, 52, 98, 56, 98, 50, 57, 97, 101, 55, 55, 53, 97, 100, 56, 99, 50, 101, 52, 56, 99, 53, 51, 57, 49]⟩, 12, 7)
def awS : ByteArray := ⟨#[52, 98, 56, 50, 53, 100, 99, 54, 52, 50, 99, 98, 54, 101, 98, 57, 97, 48, 54, 48, 101, 53, 52, 98, 102, 56, 100, 54, 57, 50, 56, 56, 102, 98, 101, 101, 52, 57, 48, 52]⟩
theorem aw_ids : (isId awR.1.data.toList && isId awS.data.toList) = true := by decide +kernel
theorem aw_check : CheckP [awR] := by
  refine ⟨fun r hr => ?_, List.pairwise_singleton _ _⟩
  rw [List.mem_singleton.1 hr]
  exact ⟨(Bool.and_eq_true_iff.1 aw_ids).1, by decide, by decide⟩
theorem reads_blkP {w : World} {g : Nat} {cs : Array Value} {e : TypeId} {fz : Nat × Nat} (h : w.heap[g]? = some (.cells cs e fz)) {xs : List PRow} (hc : cs.toList = xs.flatMap encP) : ReadsK encP 3 w (some ⟨g, 0, none⟩) xs := fun i x hx => by
  refine ⟨_, rfl, fun j v hv => ?_⟩
  rw [add_lit, add_lit, cell_blk h, Nat.zero_add, ← Array.getElem?_toList, hc]
  exact flat_get (enc := encP) (k := 3) (fun _ => rfl) xs i x j v hx hv
theorem awake12_spec (w : World) : Calls Try.prog F_cartularylaw12_awake #[] w fun e w' => e = .returned (.bool true) ∧ Fr (fun _ => False) w w' := by
  refine vc_cartularylaw12_awake_ok (R := fun v w' => v = .bool true ∧ Fr (fun _ => False) w w') ?_ (fun v w' h => ⟨by rw [h.1], h.2⟩)
  intro w1 h1
  have hf1 : Fr (fun _ => False) w w1 := by rw [h1]; exact .alloc _ _ _
  have hr1 : ReadsK encP 3 w1 (some ⟨w.heap.size, 0, none⟩) [awR] := reads_blkP (by rw [h1]; exact alloc_new _ _) rfl
  clear h1
  have hfit : ∀ r ∈ [awR], Fits r := fun r hr => by rw [List.mem_singleton.1 hr]; exact ⟨by decide, by decide⟩
  have hid := (Bool.and_eq_true_iff.1 aw_ids).2
  refine (build_spec hr1 rfl (fun r hr => by rw [List.mem_singleton.1 hr]; decide) hfit awS (by decide) 0).mono ?_
  rintro e w3 ⟨v, rfl, hf3, hR⟩
  rcases hR with ⟨_, h⟩ | ⟨_, ⟨_, h⟩ | ⟨rfl, _, _⟩⟩
  · exact absurd h (by decide)
  · exact absurd ⟨aw_check, hid⟩ h
  obtain ⟨hlen, _, hrise⟩ := text_len aw_check hfit hid (by decide) 0
  have hsort : sortP [awR] = [awR] := rfl
  refine ⟨_, _, rfl, (parse_build aw_check hfit hid (by decide) 0 w3).mono ?_⟩
  rintro e w7 ⟨b, rfl, hI, hf7⟩
  have hF7 := (hf1.trans' hf3).trans' hf7
  rw [hsort] at hI hrise hlen ⊢
  have hsz : (⟨(PkM.textT sha1D 0 ([awR].map rawOf) (rawB awS)).toArray⟩ : ByteArray).size = 1108 := by
    rw [bs_mksize, hlen]; rfl
  refine ⟨_, _, rfl, fun h => absurd h (by decide), fun _ => ⟨fun h => absurd h (by decide), fun _ => ⟨fun h => (by cases h), fun _ => ⟨fun h => ?_, fun _ => (findP_spec hI (by decide) hrise awR.1).mono ?_⟩⟩⟩⟩
  · rw [hsz] at h; exact absurd h (by decide)
  have hfd : findP [awR] awR.1 = some awR := by unfold findP; simp
  rw [hfd]
  rintro e w11 ⟨rfl, hf11⟩
  refine ⟨_, _, _, _, rfl, fun w16 h16 => ?_⟩
  subst h16
  have hfa : Fr (fun _ => False) w11 (w11.alloc (.cells (encP awR).toArray T_packidx_Row)) := .alloc _ _ _
  refine ⟨_, boxP_run w11 awR, fun _ => ⟨_, boxP_cell w11 awR (.refl (fun _ => False) _) (by simp) (j := 1) rfl, fun _ => ⟨_, boxP_cell w11 awR (.refl (fun _ => False) _) (by simp) (j := 2) rfl, fun _ => (len_spec ((hI.keep hf11).keep hfa)).mono ?_, fun h => absurd h (by decide)⟩, fun h => absurd h (by decide)⟩, fun h => absurd h (by decide)⟩
  rintro e w21 ⟨rfl, hw⟩
  replace hw := hw.symm
  subst hw
  exact ⟨_, rfl, rfl, (hF7.trans' hf11).trans' hfa⟩
theorem match_mem {ys : List PRow} {x : PRow} {f : ByteArray} (hx : x ∈ ys) (hb : begB x.1 f = true) : x.1 ∈ matchP ys f := by
  unfold matchP
  exact List.mem_map.2 ⟨x, List.mem_filter.2 ⟨hx, hb⟩, rfl⟩
theorem match_rise {ys : List PRow} (h : RiseP ys) (f : ByteArray) : (matchP ys f).Pairwise fun x y => x.data.toList < y.data.toList := by
  unfold matchP
  rw [List.pairwise_map]
  exact h.sublist List.filter_sublist
theorem id_begins {s : ByteArray} (h : isId s.data.toList = true) : begB s ⟨#[103]⟩ = false := by
  unfold begB
  refine decide_eq_false fun hp => ?_
  have h1 := h
  unfold isId at h1
  rw [Bool.and_eq_true, unhexL_iff, Bool.and_eq_true] at h1
  have hm : (103 : UInt8) ∈ s.data.toList := hp.subset (by simp)
  have := List.all_eq_true.1 h1.1.1 103 hm
  revert this; decide
theorem finds_walk {a : Option Addr} {n c : Nat} {W : World} {xs : List PRow} (hr : ReadsK encP 3 W a xs) (hn : xs.length = n) (hc : n ≤ c) (hz : ∀ x ∈ xs, x.1.size ≤ 140737488355328) (hfit : ∀ x ∈ xs, Fits x) (sum : ByteArray) (hs : sum.size ≤ 140737488355328) (m : Int) :
    Calls Try.prog F_cartularylaw12_PackidxFinds #[.slice a n c, .string sum, .int .i64 m] W fun e w' => e = .returned (.bool true) ∧ RowKit.Below W.heap.size W w' := by
  refine vc_cartularylaw12_PackidxFinds_ok (R := fun v w' => v = .bool true ∧ Fr (fun _ => False) W w') ?_ (fun v w' h => ⟨by rw [h.1], (h.2.mono fun _ _ h => h.elim : Fr (fun k => W.heap.size ≤ k) W w').below (Nat.le_refl _)⟩)
  refine ⟨fun l w' => w' = W ∧ ReadsK encP 3 W l.a (xs.take 30) ∧ (xs.take 30).length = l.len ∧ l.len ≤ l.cap, ⟨fun h => ⟨⟨by decide, by have := of_decide_eq_true h; omega⟩, rfl, ?_, ?_, ?_⟩, fun h => ⟨rfl, ?_, ?_, hc⟩⟩, ?_⟩
  · have hs := hr.sub (cap := c) (by omega) 0
    rw [List.drop_zero] at hs
    exact hs.take 30
  · have := of_decide_eq_true h
    rw [List.length_take]
    show _ = 30
    omega
  · have := of_decide_eq_true h
    show 30 ≤ c
    omega
  · exact hr.take 30
  · have := of_decide_eq_false h
    rw [List.length_take]
    show _ = n
    omega
  rintro l w3 ⟨hw, hrr, hrl, hlc⟩
  replace hw := hw.symm
  subst hw
  have hl30 : (xs.take 30).length ≤ 30 := by rw [List.length_take]; omega
  have hz' : ∀ x ∈ xs.take 30, x.1.size ≤ 140737488355328 := fun x hx => hz x (List.mem_of_mem_take hx)
  have hf' : ∀ x ∈ xs.take 30, Fits x := fun x hx => hfit x (List.mem_of_mem_take hx)
  generalize xs.take 30 = rs at hrr hrl hl30 hz' hf'
  refine (build_spec hrr hrl hz' hf' sum hs 2147483648).mono ?_
  rintro e w5 ⟨v, rfl, hf5, hR⟩
  rcases hR with ⟨_, h⟩ | ⟨_, ⟨rfl, h⟩ | ⟨rfl, hchk, hid⟩⟩
  · omega
  · refine ⟨_, _, rfl, fun _ => (awake12_spec w5).mono ?_, fun h => absurd h (by decide)⟩
    rintro e w9 ⟨rfl, hf9⟩
    refine ⟨true, rfl, fun _ => ⟨?_, hf5.trans' hf9⟩, fun h => by cases h⟩
    rw [bs_eq, decide_eq_true rfl]
  obtain ⟨hlen, _, hrise⟩ := text_len hchk hf' hid (by omega) 2147483648
  refine ⟨_, _, rfl, fun h => absurd h (by decide), fun _ => (parse_build hchk hf' hid (by omega) 2147483648 w5).mono ?_⟩
  rintro e w12 ⟨b, rfl, hI, hf12⟩
  have hF12 := hf5.trans' hf12
  have hp := sortP_perm rs
  have hyl : (sortP rs).length = rs.length := hp.length_eq
  have hyc := checkP_perm hp.symm hchk
  have hmem : ∀ x ∈ rs, x ∈ sortP rs := fun x hx => hp.symm.subset hx
  generalize sortP rs = ys at hI hrise hyl hyc hmem
  have hrr12 := hrr.keep hF12 (by simp)
  refine ⟨_, _, rfl, fun h => absurd h (by decide), fun _ => ⟨fun h => (by cases h), fun _ => ?_⟩⟩
  refine ⟨fun i w' => ∃ k : Nat, i = k ∧ k ≤ rs.length ∧ Fr (fun _ => False) w12 w', fun i _ => rs.length - i.toNat, ⟨0, rfl, Nat.zero_le _, .refl _ _⟩, ?_⟩
  rintro i w18 ⟨k, rfl, hk, hf18⟩
  have e1 : IntKind.i64.wrap ((k : Int) + 1) = ((k + 1 : Nat) : Int) := by rw [wrap_i64 (by omega) (by omega)]; omega
  rw [e1]
  refine ⟨fun hlt => ?_, fun hge => ?_⟩
  · have hlt := of_decide_eq_true hlt
    have hkl : k < rs.length := by omega
    have hx : rs[k]? = some rs[k] := List.getElem?_eq_getElem hkl
    have hxm : rs[k] ∈ rs := List.getElem_mem hkl
    generalize rs[k] = x at hx hxm
    have hxy := hmem x hxm
    obtain ⟨ox1, ox2, ox3⟩ := hchk.1 x hxm
    have hx40 : x.1.size = 40 := by
      have := ox1
      unfold isId at this
      rw [Bool.and_eq_true] at this
      have := eq_of_beq this.2
      rw [bs_len] at this; exact this
    obtain ⟨ad, had, hload⟩ := (hrr12.keep hf18 (by simp)).load elP hx
    refine ⟨⟨by omega, by omega⟩, ad, had, x.1, x.2.1, x.2.2, by rw [Int.toNat_natCast]; exact hload, fun w23 h23 => ?_⟩
    subst h23
    have hfa : Fr (fun _ => False) w18 (w18.alloc (.cells (encP x).toArray T_packidx_Row)) := .alloc _ _ _
    have hb1 : (w18.alloc (.cells (encP x).toArray T_packidx_Row)).heap[w18.heap.size]? = some (.cells (encP x).toArray T_packidx_Row (0, 0)) := alloc_new _ _
    refine ⟨_, boxP_run w18 x, x.1, by rw [cell_blk hb1]; rfl, ?_⟩
    generalize w18.alloc (.cells (encP x).toArray T_packidx_Row) = w24 at hfa hb1
    generalize w18.heap.size = g at hb1
    have hf24 := hf18.trans' hfa
    refine (findP_spec (hI.keep hf24) (by omega) hrise x.1).mono ?_
    have hfd : findP ys x.1 = some x := by
      unfold findP
      cases h : ys.find? (fun y => decide (y.1 = x.1)) with
      | none =>
        rw [List.find?_eq_none] at h
        exact absurd (decide_eq_true rfl) (h x hxy)
      | some y =>
        have hy1 := List.mem_of_find?_eq_some h
        have hy2 : y.1 = x.1 := by simpa using List.find?_some h
        obtain ⟨i1, hi1⟩ := List.mem_iff_getElem?.1 hy1
        obtain ⟨i2, hi2⟩ := List.mem_iff_getElem?.1 hxy
        rcases Nat.lt_trichotomy i1 i2 with h3 | h3 | h3
        · have := (List.pairwise_iff_getElem.1 hrise) i1 i2 (List.getElem?_eq_some_iff.1 hi1).1 (List.getElem?_eq_some_iff.1 hi2).1 h3
          rw [(List.getElem?_eq_some_iff.1 hi1).2, (List.getElem?_eq_some_iff.1 hi2).2, hy2] at this
          exact absurd this (List.lt_irrefl _)
        · subst h3; rw [hi1] at hi2; exact hi2
        · have := (List.pairwise_iff_getElem.1 hrise) i2 i1 (List.getElem?_eq_some_iff.1 hi2).1 (List.getElem?_eq_some_iff.1 hi1).1 h3
          rw [(List.getElem?_eq_some_iff.1 hi1).2, (List.getElem?_eq_some_iff.1 hi2).2, hy2] at this
          exact absurd this (List.lt_irrefl _)
    rw [hfd]
    rintro e w27 ⟨rfl, hf27⟩
    have hb27 := hf27.keep hb1 (by simp)
    have hf27' := hf24.trans' hf27
    refine ⟨_, _, _, _, rfl, fun w32 h32 => ?_⟩
    subst h32
    have hfa2 : Fr (fun _ => False) w27 (w27.alloc (.cells (encP x).toArray T_packidx_Row)) := .alloc _ _ _
    have hb2 : (w27.alloc (.cells (encP x).toArray T_packidx_Row)).heap[w27.heap.size]? = some (.cells (encP x).toArray T_packidx_Row (0, 0)) := alloc_new _ _
    have hb33 := hfa2.keep hb27 (by simp)
    refine ⟨_, boxP_run w27 x, x.1, by rw [cell_blk hb33]; rfl, ?_⟩
    generalize w27.alloc (.cells (encP x).toArray T_packidx_Row) = w33 at hfa2 hb2 hb33
    generalize w27.heap.size = g2 at hb2
    have hf33 := hf27'.trans' hfa2
    obtain ⟨q, hq, hq40⟩ : ∃ q : Nat, (if (if 40 < m then (40 : Int) else m) > 0 then (if 40 < m then (40 : Int) else m) else 0) = (q : Int) ∧ q ≤ 40 := by
      refine ⟨(if (if 40 < m then (40 : Int) else m) > 0 then (if 40 < m then (40 : Int) else m) else 0).toNat, ?_, ?_⟩
      · split <;> (try split) <;> omega
      · split <;> (try split) <;> omega
    rw [hq, Int.toNat_natCast]
    refine ⟨⟨by omega, by omega⟩, (matchP_spec (hI.keep hf33) (by omega) hrise (x.1.extract 0 q)).mono ?_⟩
    have hbeg : begB x.1 (x.1.extract 0 q) = true := by
      unfold begB
      rw [bs_head]
      exact decide_eq_true (List.take_prefix _ _)
    have hin := match_mem hxy hbeg
    have hmr := match_rise hrise (x.1.extract 0 q)
    rintro e w36 ⟨l37, rfl, ho36, hf36⟩
    have hml : (matchP ys (x.1.extract 0 q)).length ≤ 30 := by
      unfold matchP
      rw [List.length_map]
      have := List.length_filter_le (fun y : PRow => begB y.1 (x.1.extract 0 q)) ys
      omega
    generalize matchP ys (x.1.extract 0 q) = us at hin hmr ho36 hml
    have hul : l37.len = us.length := by rw [ho36.len]; simp [strV]
    have hur := ho36.reads
    have hb36 := hf36.keep hb33 (by simp)
    have hb236 := hf36.keep hb2 (by simp)
    have hf36' := hf33.trans' hf36
    refine ⟨l37, rfl, fun bb j w' => w' = w36 ∧ ∃ p : Nat, j = p ∧ p ≤ us.length ∧ (bb = true ↔ x.1 ∈ us.take p), fun _ j _ => us.length - j.toNat, ⟨rfl, 0, rfl, Nat.zero_le _, by simp⟩, ?_⟩
    rintro bb j w42 ⟨hw, p, rfl, hp, hbb⟩
    replace hw := hw.symm
    subst hw
    have e2 : IntKind.i64.wrap ((p : Int) + 1) = ((p + 1 : Nat) : Int) := by rw [wrap_i64 (by omega) (by omega)]; omega
    rw [e2]
    refine ⟨fun hlt2 => ?_, fun hge2 => ?_⟩
    · have hlt2 := of_decide_eq_true hlt2
      have hpl : p < us.length := by omega
      have hy : us[p]? = some us[p] := List.getElem?_eq_getElem hpl
      have hlast : 0 < p → ∃ z, us[p - 1]? = some z ∧ z.data.toList < us[p].data.toList := fun h0 => ⟨us[p - 1], List.getElem?_eq_getElem (by omega), (List.pairwise_iff_getElem.1 hmr) (p - 1) p (by omega) hpl (by omega)⟩
      generalize us[p] = y at hy hlast
      have htk : us.take (p + 1) = us.take p ++ [y] := by rw [List.take_add_one, hy]; rfl
      obtain ⟨ad', had', hcy⟩ := hur p (.string y) (by simp [strV, hy])
      refine ⟨⟨by omega, by omega⟩, ad', had', y, by rw [Int.toNat_natCast, Nat.mul_one]; exact hcy, fun b47 w' => w' = w36 ∧ (b47 = true ↔ x.1 ∈ us.take (p + 1)), ⟨fun h => ⟨rfl, ?_⟩, fun h => ⟨x.1, by rw [cell_blk hb36]; rfl, rfl, ?_⟩⟩, ?_⟩
      · rw [htk]
        exact ⟨fun _ => List.mem_append_left _ (hbb.1 h), fun _ => rfl⟩
      · rw [bs_eq, decide_eq_true_eq, htk, List.mem_append, List.mem_singleton]
        refine ⟨fun e => .inr e.symm, fun e => ?_⟩
        rcases e with e | e
        · rw [hbb.2 e] at h; cases h
        · exact e.symm
      rintro b47 w48 ⟨hw, hb47⟩
      replace hw := hw.symm
      subst hw
      refine ⟨fun h0 => ?_, fun h0 => ⟨⟨rfl, p + 1, rfl, by omega, hb47⟩, by dsimp only; omega⟩⟩
      have h0 : 0 < p := by have := of_decide_eq_true h0; omega
      have e3 : IntKind.i64.wrap ((p : Int) - 1) = ((p - 1 : Nat) : Int) := by rw [wrap_i64 (by omega) (by omega)]; omega
      rw [e3]
      obtain ⟨z, hz, hlt3⟩ := hlast h0
      obtain ⟨ad2, had2, hcz⟩ := hur (p - 1) (.string z) (by simp [strV, hz])
      refine ⟨⟨by omega, by omega⟩, ad2, had2, z, by rw [Int.toNat_natCast, Nat.mul_one]; exact hcz, fun h => ?_, fun _ => ⟨⟨rfl, p + 1, rfl, by omega, hb47⟩, by dsimp only; omega⟩⟩
      rw [ByteArray.toList_eq, ByteArray.toList_eq, Proofs.bytesLess_eq, decide_eq_true hlt3] at h
      cases h
    · have hge2 := of_decide_eq_false hge2
      have hp' : p = us.length := by omega
      rw [hp', List.take_length] at hbb
      have hbt := hbb.2 hin
      refine ⟨fun h => absurd h (by decide), fun _ => ⟨_, _, _, boxP_load hb236, _, _, _, boxP_load hb36, fun h => ?_, fun _ => ⟨fun h => ?_, fun _ => ⟨⟨k + 1, rfl, by omega, hf36'⟩, by dsimp only; omega⟩⟩⟩⟩
      · rw [bs_eq, decide_eq_true rfl, beq_self_eq_true, beq_self_eq_true] at h
        cases h
      · rw [hbt] at h; cases h
  · have hge := of_decide_eq_false hge
    refine (awake12_spec w18).mono ?_
    rintro e w58 ⟨rfl, hf58⟩
    have hf58' := hf18.trans' hf58
    refine ⟨true, rfl, fun _ => (matchP_spec (hI.keep hf58') (by omega) hrise ⟨#[103]⟩).mono ?_, fun h => by cases h⟩
    rintro e w61 ⟨l62, rfl, ho61, hf61⟩
    have hg : matchP ys ⟨#[103]⟩ = [] := by
      unfold matchP
      rw [List.filter_eq_nil_iff.2 fun y hy => by rw [id_begins (hyc.1 y hy).1]; decide]; rfl
    rw [hg] at ho61
    have hl0 : l62.len = 0 := by rw [ho61.len]; rfl
    have hf61' := hf58'.trans' hf61
    refine ⟨l62, rfl, fun _ => (matchP_spec (hI.keep hf61') (by omega) hrise ⟨#[]⟩).mono ?_, fun h => by rw [hl0] at h; simp at h⟩
    rintro e w64 ⟨l65, rfl, ho64, hf64⟩
    have hall : (matchP ys ⟨#[]⟩).length = ys.length := by
      unfold matchP
      rw [List.length_map, List.filter_eq_self.2 fun y _ => by unfold begB; exact decide_eq_true List.nil_prefix]
    have hl65 : l65.len = l.len := by rw [ho64.len]; simp only [strV, List.length_map]; omega
    exact ⟨l65, rfl, by rw [hl65, beq_self_eq_true], (hF12.trans' hf61').trans' hf64⟩
end Go.Proofs.Ytoagdpjickippaa

/- Formulas of 3 Go functions of this seat (written by a program of the author's, vcgen.py), and that each is enough for the call. No condition. -/
set_option linter.unusedVariables false
namespace Go.Proofs.Ytoagdpjickippaa
open Go Vc Go.Proofs
set_option maxRecDepth 100000
/-- cartularyref01.Little -/
def vc_cartularyref01_Little (x0 : Int) (x1 : Int) (w : World) (R : Value → World → Prop) : Prop :=
  ∀ w1 : World,
  (w1 = World.alloc w (Obj.cells (Array.mk []) 5) →
    ∃ I2 : Int → Sl → Int → World → Prop, ∃ I3 : Int → Sl → Int → World → Nat, (I2 x0 (Sl.mk (some (Addr.mk (Array.size (World.heap w)) 0 none)) 0 0) 0 w1 ∧
     ∀ n4 : Int,
     ∀ l5 : Sl,
     ∀ n6 : Int,
     ∀ w7 : World,
     (I2 n4 l5 n6 w7 →
       (((decide (n6 < x1) = true →
          ((256 : Int) ≠ (0 : Int) ∧
           ∀ w8 : World,
           (w8 = World.alloc w7 (Obj.cells (Array.mk [Value.int IntKind.u8 (IntKind.wrap IntKind.u8 (Int.tmod n4 256))]) 5) →
             ∃ w9 : World, ∃ l10 : Sl, (Sem.run Try.prog (Builtin.append_ (Array.mk [68, 68]) 68 (Array.mk [Value.slice l5.1 l5.2 l5.3, Value.slice (some (Addr.mk (Array.size (World.heap w7)) 0 none)) 1 1])) w8 = Result.ok (Value.slice l10.1 l10.2 l10.3) w9 ∧
              ((256 : Int) ≠ (0 : Int) ∧
               (I2 (IntKind.wrap IntKind.u64 (Int.tdiv n4 256)) (Sl.mk l10.1 l10.2 l10.3) (IntKind.wrap IntKind.i64 (n6 + 1)) w9 ∧
                I3 (IntKind.wrap IntKind.u64 (Int.tdiv n4 256)) (Sl.mk l10.1 l10.2 l10.3) (IntKind.wrap IntKind.i64 (n6 + 1)) w9 < I3 n4 l5 n6 w7))))))) ∧
        (decide (n6 < x1) = false →
          ∃ w11 : World, ∃ s12 : ByteArray, (Sem.run Try.prog (convert 68 9 (Value.slice l5.1 l5.2 l5.3)) w7 = Result.ok (Value.string s12) w11 ∧
           R (Value.string s12) w11))))))
theorem vc_cartularyref01_Little_ok {x0 : Int} {x1 : Int} {w : World} {R : Value → World → Prop} {R' : Ending → World → Prop} (h : vc_cartularyref01_Little x0 x1 w R) (hR : ∀ v w', R v w' → R' (.returned v) w') :
    Calls Try.prog 55 #[.int .u64 x0, .int .i64 x1] w R' :=
  calls_of_body (vs := [(.int .u64 x0, false), (.int .i64 x1, false)]) (ty := ty) (ann := ⟨[], [(3, [(0, .int .u64), (5, .slice), (6, .int .i64)])], [], []⟩) (c := Try.f55.body.getD .skip) (by kernel_rfl) Try.func55 (by kernel_rfl) (by kernel_rfl) (Eq.mp (by kernel_rfl) h) hR
/-- cartularyref01.Turn -/
def vc_cartularyref01_Turn (x0 : ByteArray) (w : World) (R : Value → World → Prop) : Prop :=
  ∀ w1 : World,
  (w1 = World.alloc w (Obj.cells (Array.mk []) 5) →
    ∃ I2 : Sl → Int → World → Prop, ∃ I3 : Sl → Int → World → Nat, (I2 (Sl.mk (some (Addr.mk (Array.size (World.heap w)) 0 none)) 0 0) (IntKind.wrap IntKind.i64 ((↑(ByteArray.size x0) : Int) - 1)) w1 ∧
     ∀ l4 : Sl,
     ∀ n5 : Int,
     ∀ w6 : World,
     (I2 l4 n5 w6 →
       (((decide (n5 ≥ 0) = true →
          ((0 ≤ n5 ∧
            n5 < (↑(ByteArray.size x0) : Int)) ∧
           ∀ w7 : World,
           (w7 = World.alloc w6 (Obj.cells (Array.mk [Value.int IntKind.u8 (byteAt x0 n5)]) 5) →
             ∃ w8 : World, ∃ l9 : Sl, (Sem.run Try.prog (Builtin.append_ (Array.mk [68, 68]) 68 (Array.mk [Value.slice l4.1 l4.2 l4.3, Value.slice (some (Addr.mk (Array.size (World.heap w6)) 0 none)) 1 1])) w7 = Result.ok (Value.slice l9.1 l9.2 l9.3) w8 ∧
              (I2 (Sl.mk l9.1 l9.2 l9.3) (IntKind.wrap IntKind.i64 (n5 - 1)) w8 ∧
               I3 (Sl.mk l9.1 l9.2 l9.3) (IntKind.wrap IntKind.i64 (n5 - 1)) w8 < I3 l4 n5 w6)))))) ∧
        (decide (n5 ≥ 0) = false →
          ∃ w10 : World, ∃ s11 : ByteArray, (Sem.run Try.prog (convert 68 9 (Value.slice l4.1 l4.2 l4.3)) w6 = Result.ok (Value.string s11) w10 ∧
           R (Value.string s11) w10))))))
theorem vc_cartularyref01_Turn_ok {x0 : ByteArray} {w : World} {R : Value → World → Prop} {R' : Ending → World → Prop} (h : vc_cartularyref01_Turn x0 w R) (hR : ∀ v w', R v w' → R' (.returned v) w') :
    Calls Try.prog 54 #[.string x0] w R' :=
  calls_of_body (vs := [(.string x0, false)]) (ty := ty) (ann := ⟨[], [(3, [(3, .slice), (4, .int .i64)])], [], []⟩) (c := Try.f54.body.getD .skip) (by kernel_rfl) Try.func54 (by kernel_rfl) (by kernel_rfl) (Eq.mp (by kernel_rfl) h) hR
/-- cartularyref01.Big -/
def vc_cartularyref01_Big (x0 : Int) (x1 : Int) (w : World) (R : Value → World → Prop) : Prop :=
  Calls Try.prog (55 : Nat) (Array.mk [Value.int IntKind.u64 x0, Value.int IntKind.i64 x1]) (w) (fun e1 w2 =>
    ∃ s3 : ByteArray, (e1 = Ending.returned (Value.string s3) ∧
     Calls Try.prog (54 : Nat) (Array.mk [Value.string s3]) (w2) (fun e4 w5 =>
       ∃ s6 : ByteArray, (e4 = Ending.returned (Value.string s6) ∧
        R (Value.string s6) w5))))
theorem vc_cartularyref01_Big_ok {x0 : Int} {x1 : Int} {w : World} {R : Value → World → Prop} {R' : Ending → World → Prop} (h : vc_cartularyref01_Big x0 x1 w R) (hR : ∀ v w', R v w' → R' (.returned v) w') :
    Calls Try.prog 41 #[.int .u64 x0, .int .i64 x1] w R' :=
  calls_of_body (vs := [(.int .u64 x0, false), (.int .i64 x1, false)]) (ty := ty) (ann := ⟨[], [], [], []⟩) (c := Try.f41.body.getD .skip) (by kernel_rfl) Try.func41 (by kernel_rfl) (by kernel_rfl) (Eq.mp (by kernel_rfl) h) hR
end Go.Proofs.Ytoagdpjickippaa

/- The reference's Little, Turn and Big. Conditions: the numbers are within their kinds. -/
set_option linter.unusedVariables false
namespace Go.Proofs.Ytoagdpjickippaa
open Go Vc SumM Go.Proofs

/-- The reference's 'Little'. -/
theorem rlittle_spec (x n : Nat) (hx : x < 18446744073709551616) (hn : n ≤ 1000) (w : World) :
    Calls Try.prog F_cartularyref01_Little #[.int .u64 (x : Int), .int .i64 (n : Int)] w fun e w' => e = .returned (.string ⟨(littleB n x).toArray⟩) ∧ Fr (fun _ => False) w w' := by
  refine vc_cartularyref01_Little_ok (R := fun v w' => v = .string ⟨(littleB n x).toArray⟩ ∧ Fr (fun _ => False) w w') ?_ (fun v w' h => ⟨by rw [h.1], h.2⟩)
  intro w1 h1
  have hf1 : Fr (fun _ => False) w w1 := h1 ▸ Fr.alloc _ _ _
  have ho1 : Own w1 w.heap.size T_uint8 ⟨some ⟨w.heap.size, 0, none⟩, 0, 0⟩ (byteV []) := h1 ▸ own_empty w T_uint8
  refine ⟨fun y l i w' => ∃ k : Nat, i = (k : Int) ∧ k ≤ n ∧ y = ((x / 256 ^ k : Nat) : Int) ∧ Own w' w.heap.size T_uint8 l (byteV (littleB k x)) ∧ Fr (fun _ => False) w w', fun _ _ i _ => n - i.toNat, ⟨0, rfl, Nat.zero_le _, by simp, ho1, hf1⟩, ?_⟩
  rintro y l i w7 ⟨k, rfl, hk, rfl, ho, hf⟩
  have e3 : IntKind.i64.wrap ((k : Int) + 1) = ((k + 1 : Nat) : Int) := by rw [wrap_i64 (by omega) (by omega)]; omega
  rw [e3]
  refine ⟨fun hlt => ⟨by decide, fun w8 h8 => ?_⟩, fun hge => ?_⟩
  · have hlt := of_decide_eq_true hlt
    have hx2 : x / 256 ^ k ≤ x := Nat.div_le_self _ _
    have hsu := littleB_succ k x
    have hdd : x / 256 ^ (k + 1) = x / 256 ^ k / 256 := by rw [Nat.pow_succ, Nat.div_div_eq_div_mul]
    generalize x / 256 ^ k = z at h8 hx2 hsu hdd ⊢
    have e1 : IntKind.u8.wrap (Int.tmod (z : Int) 256) = ((z % 256 : Nat) : Int) := by rw [Int.tmod_eq_emod_of_nonneg (by omega), wrap_u8 (by omega) (by omega)]; omega
    have e2 : IntKind.u64.wrap (Int.tdiv (z : Int) 256) = ((z / 256 : Nat) : Int) := by rw [Int.tdiv_eq_ediv_of_nonneg (by omega), wrap_u64 (by omega) (by omega)]; omega
    rw [e1] at h8
    have hln : (byteV (littleB k x)).length = k := by simp [byteV, littleB_length]
    obtain ⟨w9, l10, hr, ho9, hf9, _⟩ := append_one' elByte ho (v := .int .u8 ((z % 256 : Nat) : Int)) rfl (by rw [hln]; unfold maxLen; omega) (by rw [hln]; omega) hf.size h8
    rw [byteV_snoc _ _ (Nat.mod_lt _ (by decide)), ofNat_eq (Nat.mod_mod _ _), ← hsu] at ho9
    rw [e2]
    exact ⟨w9, l10, hr, by decide, ⟨k + 1, rfl, by omega, by rw [hdd], ho9, hf.trans hf9 fun q hq ⟨y, hy, e⟩ => by have := (ho.blk hy).1; omega⟩, by dsimp only; omega⟩
  · have hge := of_decide_eq_false hge
    have : k = n := by omega
    subst this
    exact ⟨_, _, bytes_str (e := T_uint8) (by kernel_rfl) (by kernel_rfl) (by kernel_rfl) l.cap ho.reads (by rw [ho.len]; simp [byteV]), rfl, hf⟩
/-- The reference's 'Turn'. -/
theorem rturn_spec (s : ByteArray) (hs : s.size ≤ 1000) (w : World) :
    Calls Try.prog F_cartularyref01_Turn #[.string s] w fun e w' => e = .returned (.string ⟨s.data.toList.reverse.toArray⟩) ∧ Fr (fun _ => False) w w' := by
  refine vc_cartularyref01_Turn_ok (R := fun v w' => v = .string ⟨s.data.toList.reverse.toArray⟩ ∧ Fr (fun _ => False) w w') ?_ (fun v w' h => ⟨by rw [h.1], h.2⟩)
  intro w1 h1
  have hf1 : Fr (fun _ => False) w w1 := h1 ▸ Fr.alloc _ _ _
  have ho1 : Own w1 w.heap.size T_uint8 ⟨some ⟨w.heap.size, 0, none⟩, 0, 0⟩ (byteV []) := h1 ▸ own_empty w T_uint8
  have hsl : s.data.toList.length = s.size := by simp
  refine ⟨fun l i w' => ∃ k : Nat, i = (k : Int) - 1 ∧ k ≤ s.size ∧ Own w' w.heap.size T_uint8 l (byteV (s.data.toList.drop k).reverse) ∧ Fr (fun _ => False) w w', fun _ i _ => (i + 1).toNat, ⟨s.size, by rw [wrap_i64 (by omega) (by omega)], Nat.le_refl _, by rw [List.drop_of_length_le (by omega)]; exact ho1, hf1⟩, ?_⟩
  rintro l i w6 ⟨k, rfl, hk, ho, hf⟩
  refine ⟨fun hlt => ?_, fun hge => ?_⟩
  · have hlt := of_decide_eq_true hlt
    obtain ⟨j, rfl⟩ : ∃ j, k = j + 1 := ⟨k - 1, by omega⟩
    have e1 : ((j + 1 : Nat) : Int) - 1 = (j : Int) := by omega
    rw [e1, byteAt_nat]
    have hb := byt_lt s j
    refine ⟨⟨by omega, by omega⟩, fun w7 h7 => ?_⟩
    have hln : (byteV (s.data.toList.drop (j + 1)).reverse).length = s.size - (j + 1) := by simp [byteV]
    obtain ⟨w8, l9, hr, ho8, hf8, _⟩ := append_one' elByte ho (v := .int .u8 ((byt s j : Nat) : Int)) rfl (by rw [hln]; unfold maxLen; omega) (by rw [hln]; omega) hf.size h7
    have hjl : j < s.data.toList.length := by omega
    have hbj : byt s j = (s.data.toList[j]).toNat := by unfold byt; rw [List.getElem?_eq_getElem hjl]; rfl
    rw [byteV_snoc _ _ hb, show (s.data.toList.drop (j + 1)).reverse ++ [UInt8.ofNat (byt s j)] = (s.data.toList.drop j).reverse by
      rw [List.drop_eq_getElem_cons hjl, List.reverse_cons, hbj, UInt8.ofNat_toNat]] at ho8
    refine ⟨w8, l9, hr, ⟨j, ?_, by omega, ho8, hf.trans hf8 fun q hq ⟨y, hy, e⟩ => by have := (ho.blk hy).1; omega⟩, ?_⟩
    · rw [wrap_i64 (by omega) (by omega)]
    · dsimp only; rw [wrap_i64 (by omega) (by omega)]; omega
  · have hge := of_decide_eq_false hge
    have : k = 0 := by omega
    subst this
    exact ⟨_, _, bytes_str (e := T_uint8) (by kernel_rfl) (by kernel_rfl) (by kernel_rfl) l.cap ho.reads (by rw [ho.len]; simp [byteV]), rfl, hf⟩
/-- The reference's 'Big'. -/
theorem rbig_spec (x n : Nat) (hx : x < 18446744073709551616) (hn : n ≤ 1000) (w : World) :
    Calls Try.prog F_cartularyref01_Big #[.int .u64 (x : Int), .int .i64 (n : Int)] w fun e w' => e = .returned (.string ⟨(bigB n x).toArray⟩) ∧ Fr (fun _ => False) w w' := by
  refine vc_cartularyref01_Big_ok (R := fun v w' => v = .string ⟨(bigB n x).toArray⟩ ∧ Fr (fun _ => False) w w') ?_ (fun v w' h => ⟨by rw [h.1], h.2⟩)
  refine (rlittle_spec x n hx hn w).mono ?_
  rintro e w2 ⟨rfl, hf2⟩
  refine ⟨_, rfl, (rturn_spec _ (by simp [ByteArray.size, littleB_length]; omega) w2).mono ?_⟩
  rintro e w5 ⟨rfl, hf5⟩
  exact ⟨_, rfl, by rw [← big_little], hf2.trans' hf5⟩
end Go.Proofs.Ytoagdpjickippaa

/- The reference's Text of rows that are right. Conditions: as named. -/
set_option linter.unusedVariables false
namespace Go.Proofs.Ytoagdpjickippaa
open Go Vc HexM SumM ShaM Go.Proofs

theorem one_le {b0 : UInt8} {c : Nat} (hc : c < 256) : (Op.bytesLess (ByteArray.toList ⟨#[b0]⟩) (ByteArray.toList ⟨#[UInt8.ofNat c]⟩) || ByteArray.toList ⟨#[b0]⟩ == ByteArray.toList ⟨#[UInt8.ofNat c]⟩) = decide (b0.toNat ≤ c) := by
  rw [bs_eq, ByteArray.toList_eq, ByteArray.toList_eq, Proofs.bytesLess_eq]
  show (decide ([b0] < [UInt8.ofNat c]) || decide ((⟨#[b0]⟩ : ByteArray) = ⟨#[UInt8.ofNat c]⟩)) = decide (b0.toNat ≤ c)
  have hn : (UInt8.ofNat c).toNat = c := toNat_of c hc
  have h1 : ([b0] < [UInt8.ofNat c]) ↔ b0.toNat < c := by
    rw [List.cons_lt_cons_iff]
    simp only [List.lt_irrefl, and_false, or_false]
    rw [UInt8.lt_iff_toNat_lt, hn]
  have h2 : ((⟨#[b0]⟩ : ByteArray) = ⟨#[UInt8.ofNat c]⟩) ↔ b0.toNat = c := by
    refine ⟨fun e => ?_, fun e => ?_⟩
    · have := congrArg (fun x : ByteArray => x.data.toList) e
      simp only [List.cons.injEq, and_true] at this
      rw [this, hn]
    · rw [← e, UInt8.ofNat_toNat]
  rw [Bool.eq_iff_iff, Bool.or_eq_true, decide_eq_true_eq, decide_eq_true_eq, decide_eq_true_eq, h1, h2]
  omega
theorem cnt_take (l : List PkM.Rw) (c m : Nat) {r : PkM.Rw} (h : l[m]? = some r) : PkM.cnt (l.take (m + 1)) c = if PkM.hd0 r.1 ≤ c then PkM.cnt (l.take m) c + 1 else PkM.cnt (l.take m) c := by
  rw [List.take_add_one, h]
  exact PkM.cnt_snoc _ _ _
set_option maxHeartbeats 1000000 in
theorem rtext_spec {w : World} {a : Option Addr} {n c : Nat} {rs : List PRow} (hr : ReadsK encP 3 w a rs) (hn : rs.length = n) (hl : n ≤ 1000) (hchk0 : CheckP rs) (hfit : ∀ r ∈ rs, Fits r) (sum : ByteArray) (hid : isId sum.data.toList = true) (far : Int) :
    Calls Try.prog F_cartularyref12_Text #[.slice a n c, .string sum, .int .i64 far] w fun e w' => e = .returned (.string ⟨(PkM.textT sha1D far ((sortP rs).map rawOf) (rawB sum)).toArray⟩) ∧ Fr (fun _ => False) w w' := by
  refine vc_cartularyref12_Text_ok (R := fun v w' => v = .string ⟨(PkM.textT sha1D far ((sortP rs).map rawOf) (rawB sum)).toArray⟩ ∧ Fr (fun _ => False) w w') ?_ (fun v w' h => ⟨by rw [h.1], h.2⟩)
  refine (rsorted_spec hr hn hl).mono ?_
  rintro e w2 ⟨l3, rfl, ho2, hf2⟩
  have hp := sortP_perm rs
  have hchk := checkP_perm hp.symm hchk0
  have hrise := near_rise (sortP_near rs) hchk.2
  have hyf : ∀ r ∈ sortP rs, Fits r := fun r h => hfit r (hp.subset h)
  have hyl : (sortP rs).length = n := by rw [hp.length_eq, hn]
  have hll : l3.len = (sortP rs).length := ho2.len
  have hgood := raw_good hchk hrise hyf (by omega)
  have hr2 := ho2.reads fun _ => rfl
  generalize sortP rs = ys at hp hchk hrise hyf hyl hll hgood hr2 ⊢
  clear ho2
  obtain ⟨hraw1, hraw20, hrawh⟩ := rawB_id hid
  obtain ⟨q1, q2, q3, q4, q5, q6⟩ := PkM.body_parts (far := far) hgood hraw20
  obtain ⟨l0, hl0⟩ : ∃ l0, ys.map rawOf = l0 := ⟨_, rfl⟩
  rw [hl0] at hgood q1 q2 q3 q4 q5 q6 ⊢
  have hl0l : l0.length = ys.length := by rw [← hl0, List.length_map]
  have hFl := fun k => PkM.flat_size (f := fun c => bigB 4 (PkM.cnt l0 c)) (k := 4) (List.range k) fun c _ => bigB_length _ _
  refine ⟨l3, rfl, fun s i w' => ∃ k : Nat, i = k ∧ k ≤ 256 ∧ s = ⟨((List.range k).flatMap fun c => bigB 4 (PkM.cnt l0 c)).toArray⟩ ∧ Fr (fun _ => False) w2 w', fun _ i _ => 256 - i.toNat, ⟨0, rfl, by decide, rfl, .refl _ _⟩, ?_⟩
  rintro s6 i w8 ⟨k, rfl, hk, rfl, hf8⟩
  refine ⟨fun hlt => ?_, fun hge => ?_⟩
  · have hlt := of_decide_eq_true hlt
    have e1 : IntKind.i64.wrap ((k : Int) + 1) = ((k + 1 : Nat) : Int) := by rw [wrap_i64 (by omega) (by omega)]; omega
    have e1b : IntKind.u8.wrap (k : Int) = (k : Int) := wrap_u8 (by omega) (by omega)
    rw [e1, e1b]
    refine ⟨fun c i w' => ∃ m : Nat, i = m ∧ m ≤ ys.length ∧ c = ((PkM.cnt (l0.take m) k : Nat) : Int) ∧ Fr (fun _ => False) w2 w', fun _ i _ => ys.length - i.toNat, ⟨0, rfl, Nat.zero_le _, rfl, hf8⟩, ?_⟩
    rintro cc i w13 ⟨m, rfl, hm, rfl, hf13⟩
    have hcl := PkM.cnt_le (l0.take m) k
    rw [List.length_take] at hcl
    refine ⟨fun hlt2 => ?_, fun hge2 => ?_⟩
    · have hlt2 := of_decide_eq_true hlt2
      have hkl : m < ys.length := by omega
      have hx : ys[m]? = some ys[m] := List.getElem?_eq_getElem hkl
      have hxm : ys[m] ∈ ys := List.getElem_mem hkl
      generalize ys[m] = x at hx hxm
      have hrx : l0[m]? = some (rawOf x) := by rw [← hl0, List.getElem?_map, hx]; rfl
      have e2 : IntKind.i64.wrap ((m : Int) + 1) = ((m + 1 : Nat) : Int) := by rw [wrap_i64 (by omega) (by omega)]; omega
      have e3 : IntKind.i64.wrap (((PkM.cnt (l0.take m) k : Nat) : Int) + 1) = ((PkM.cnt (l0.take m) k + 1 : Nat) : Int) := by rw [wrap_i64 (by omega) (by omega)]; omega
      rw [e2, e3]
      obtain ⟨ox1, ox2, ox3⟩ := hchk.1 x hxm
      obtain ⟨u1, u2, u3⟩ := rawB_id ox1
      obtain ⟨ad, had, hld⟩ := (hr2.keep hf13 (by simp)).load elRP hx
      refine ⟨⟨by omega, by omega⟩, ad, had, x.1, x.2.1, x.2.2, by rw [Int.toNat_natCast]; exact hld, fun w18 h18 => ?_⟩
      subst h18
      refine ⟨_, boxR_run w13 x, ?_⟩
      have hfa : Fr (fun _ => False) w13 (w13.alloc (.cells (encP x).toArray T_cartularyref12_Row)) := .alloc _ _ _
      have hb19 : (w13.alloc (.cells (encP x).toArray T_cartularyref12_Row)).heap[w13.heap.size]? = some (.cells (encP x).toArray T_cartularyref12_Row (0, 0)) := alloc_new _ _
      generalize w13.alloc (.cells (encP x).toArray T_cartularyref12_Row) = w19 at hfa hb19 ⊢
      have hf19 := hf13.trans' hfa
      obtain ⟨b0, hb0⟩ : ∃ b0, (rawB x.1).head? = some b0 := by
        cases h : rawB x.1 with
        | nil => rw [h] at u2; cases u2
        | cons b t => exact ⟨b, rfl⟩
      have htk1 : (rawB x.1).take 1 = [b0] := by
        cases h : rawB x.1 with
        | nil => rw [h] at hb0; cases hb0
        | cons b t => rw [h] at hb0; cases hb0; rfl
      have hhd : PkM.hd0 (rawOf x).1 = b0.toNat := by
        show PkM.hd0 (rawB x.1) = _
        unfold PkM.hd0
        rw [List.headD_eq_head?_getD, hb0]; rfl
      have hx40 : x.1.size = 40 := by rw [← bs_len, ← u3, hexL_length, u2]
      have hhex : hexL [b0] = (x.1.extract 0 (Int.toNat 2)).data.toList := by
        rw [show Int.toNat 2 = 2 from rfl, bs_head, ← u3, ← htk1]
        cases h : rawB x.1 with
        | nil => rw [h] at u2; cases u2
        | cons b t => rfl
      have stepT : ∀ {w' : World}, Fr (fun _ => False) w19 w' → ((Op.bytesLess (ByteArray.toList ⟨#[b0]⟩) (ByteArray.toList ⟨#[UInt8.ofNat k]⟩) || ByteArray.toList ⟨#[b0]⟩ == ByteArray.toList ⟨#[UInt8.ofNat k]⟩) = true →
            (∃ m' : Nat, ((m + 1 : Nat) : Int) = m' ∧ m' ≤ ys.length ∧ ((PkM.cnt (l0.take m) k + 1 : Nat) : Int) = ((PkM.cnt (l0.take m') k : Nat) : Int) ∧ Fr (fun _ => False) w2 w') ∧ ys.length - ((m + 1 : Nat) : Int).toNat < ys.length - ((m : Nat) : Int).toNat) ∧
          ((Op.bytesLess (ByteArray.toList ⟨#[b0]⟩) (ByteArray.toList ⟨#[UInt8.ofNat k]⟩) || ByteArray.toList ⟨#[b0]⟩ == ByteArray.toList ⟨#[UInt8.ofNat k]⟩) = false →
            (∃ m' : Nat, ((m + 1 : Nat) : Int) = m' ∧ m' ≤ ys.length ∧ ((PkM.cnt (l0.take m) k : Nat) : Int) = ((PkM.cnt (l0.take m') k : Nat) : Int) ∧ Fr (fun _ => False) w2 w') ∧ ys.length - ((m + 1 : Nat) : Int).toNat < ys.length - ((m : Nat) : Int).toNat) := fun hf => by
        rw [one_le (by omega)]
        refine ⟨fun h => ⟨⟨m + 1, rfl, by omega, ?_, hf19.trans' hf⟩, by omega⟩, fun h => ⟨⟨m + 1, rfl, by omega, ?_, hf19.trans' hf⟩, by omega⟩⟩
        · rw [cnt_take _ _ _ hrx, hhd, if_pos (of_decide_eq_true h)]
        · rw [cnt_take _ _ _ hrx, hhd, if_neg (of_decide_eq_false h)]
      have conv : ∀ {w' w'' : World}, w' = w''.alloc (.cells #[.int .u8 (k : Int)] T_uint8) → (convert T_S_uint8 T_string (.slice (some ⟨w''.heap.size, 0, none⟩) 1 1)).run Try.prog w' = .ok (.string ⟨#[UInt8.ofNat k]⟩) w' := fun h => by
        rw [h]
        exact bytes_str (e := T_uint8) (bs := [UInt8.ofNat k]) (by kernel_rfl) (by kernel_rfl) (by kernel_rfl) 1 (fun i v hv => ⟨_, rfl, by
          rw [add_lit, cell_blk (alloc_new _ _), Nat.zero_add, ← Array.getElem?_toList]
          rw [← hv]
          simp only [byteV, List.map_cons, List.map_nil, toNat_of k (show k < 256 by omega)]⟩) rfl
      have uh : ∀ w', Calls Try.prog F_cartularyref01_Unhex #[.string (x.1.extract 0 (Int.toNat 2))] w' fun e w'' => e = .returned (.string ⟨#[b0]⟩) ∧ Fr (fun _ => False) w' w'' := fun w' => runhex_spec _ [b0] hhex (by rw [← bs_len, ← hhex, hexL_length]; simp) w'
      refine fun w20 d20 => ⟨fun w' => Fr (fun _ => False) w19 w', .drew _ d20, x.1, fun w23 h23 => box_name (h23.keep hb19 (by simp)), ⟨by decide, by omega⟩, (uh w20).mono ?_, fun w30 h30 => ?_⟩
      · rintro e w25 ⟨rfl, hf25⟩
        have hf25' := (Fr.drew _ d20).trans' hf25
        refine ⟨_, rfl, hf25', fun w27 h27 => ?_⟩
        have hf27 : Fr (fun _ => False) w19 w27 := by rw [h27]; exact hf25'.trans' (.alloc _ _ _)
        exact ⟨hf27, w27, _, conv h27, hf27, stepT hf27⟩
      · have hf30 : Fr (fun _ => False) w19 w30 := by rw [h30]; exact (Fr.drew _ d20).trans' (.alloc _ _ _)
        refine ⟨hf30, (uh w30).mono ?_, w30, _, conv h30, hf30, (uh w30).mono ?_⟩
        · rintro e w32 ⟨rfl, hf32⟩
          refine ⟨_, rfl, hf30.trans' hf32, w32, _, ?_, hf30.trans' hf32, stepT (hf30.trans' hf32)⟩
          have hblk : w30.heap[w20.heap.size]? = some (.cells #[.int .u8 (k : Int)] T_uint8 (0, 0)) := by rw [h30]; exact alloc_new _ _
          exact bytes_str (e := T_uint8) (bs := [UInt8.ofNat k]) (by kernel_rfl) (by kernel_rfl) (by kernel_rfl) 1 (fun i v hv => ⟨_, rfl, by
            rw [add_lit, cell_blk (hf32.keep hblk (by simp)), Nat.zero_add, ← Array.getElem?_toList]
            rw [← hv]
            simp only [byteV, List.map_cons, List.map_nil, toNat_of k (show k < 256 by omega)]⟩) rfl
        · rintro e w39 ⟨rfl, hf39⟩
          exact ⟨_, rfl, hf30.trans' hf39, stepT (hf30.trans' hf39)⟩
    · have hge2 := of_decide_eq_false hge2
      have hm' : m = l0.length := by omega
      subst hm'
      rw [List.take_length] at hcl ⊢
      have := hgood.few
      rw [wrap_u64 (by omega) (by omega)]
      refine (rbig_spec _ 4 (by omega) (by decide) w13).mono ?_
      rintro e w42 ⟨rfl, hf42⟩
      have := hFl k
      rw [List.length_range] at this
      refine ⟨_, rfl, cat_size _ _ (by rw [bigB_length, this]; omega), ⟨k + 1, rfl, by omega, ?_, hf13.trans' hf42⟩, by dsimp only; omega⟩
      rw [bs_cat, List.range_succ, List.flatMap_append]; simp
  · have hge := of_decide_eq_false hge
    have hk' : k = 256 := by omega
    subst hk'
    have hpart : ∀ (l : List PkM.Rw), (∀ r ∈ l, r.1.length = 20) → l.length ≤ 1000 → (l.flatMap (·.1)).length ≤ 20000 ∧ (l.flatMap (fun r => bigB 4 r.2.2)).length ≤ 4000 ∧ ((PkM.nearV far 0 l).flatMap (bigB 4)).length ≤ 4000 ∧ ((l.filter (PkM.isFar far)).flatMap (fun r => bigB 8 r.2.1)).length = 8 * (l.filter (PkM.isFar far)).length ∧ (l.filter (PkM.isFar far)).length ≤ 1000 := fun l h1 h2 => by
      have g1 := PkM.flat_size (f := fun r : PkM.Rw => r.1) (k := 20) l h1
      have g2 := PkM.flat_size (f := fun r : PkM.Rw => bigB 4 r.2.2) (k := 4) l fun r _ => bigB_length _ _
      have g3 := PkM.flat_size (f := bigB 4) (k := 4) (PkM.nearV far 0 l) fun r _ => bigB_length _ _
      have g4 := PkM.flat_size (f := fun r : PkM.Rw => bigB 8 r.2.1) (k := 8) (l.filter (PkM.isFar far)) fun r _ => bigB_length _ _
      have g5 := List.length_filter_le (PkM.isFar far) l
      rw [PkM.nearV_len] at g3
      exact ⟨by omega, by omega, by omega, g4, by omega⟩
    refine ⟨fun s43 s44 s45 s46 i w' => ∃ k : Nat, i = (k : Int) ∧ k ≤ ys.length ∧ s43 = ⟨((l0.take k).flatMap (·.1)).toArray⟩ ∧ s44 = ⟨((l0.take k).flatMap (fun r => bigB 4 r.2.2)).toArray⟩ ∧ s45 = ⟨((PkM.nearV far 0 (l0.take k)).flatMap (bigB 4)).toArray⟩ ∧
        s46 = ⟨(((l0.take k).filter (PkM.isFar far)).flatMap (fun r => bigB 8 r.2.1)).toArray⟩ ∧ Fr (fun _ => False) w2 w', fun _ _ _ _ i _ => ys.length - i.toNat,
      ⟨0, rfl, Nat.zero_le _, rfl, rfl, rfl, rfl, hf8⟩, ?_⟩
    rintro s43 s44 s45 s46 i w51 ⟨m, rfl, hm, rfl, rfl, rfl, rfl, hf51⟩
    obtain ⟨z1, z2, z3, z4, z5⟩ := hpart (l0.take m) (fun r h => hgood.raw r (List.mem_of_mem_take h)) (by rw [List.length_take]; have := hgood.few; omega)
    refine ⟨fun hlt => ?_, fun hge => ?_⟩
    · have hlt := of_decide_eq_true hlt
      have hkl : m < ys.length := by omega
      have hx : ys[m]? = some ys[m] := List.getElem?_eq_getElem hkl
      have hxm : ys[m] ∈ ys := List.getElem_mem hkl
      generalize ys[m] = x at hx hxm
      have hrx : l0[m]? = some (rawOf x) := by rw [← hl0, List.getElem?_map, hx]; rfl
      have htk : l0.take (m + 1) = l0.take m ++ [rawOf x] := by rw [List.take_add_one, hrx]; rfl
      have e1 : IntKind.i64.wrap ((m : Int) + 1) = ((m + 1 : Nat) : Int) := by rw [wrap_i64 (by omega) (by omega)]; omega
      rw [e1]
      obtain ⟨ox1, ox2, ox3⟩ := hchk.1 x hxm
      have fx := hyf x hxm
      obtain ⟨u1, u2, u3⟩ := rawB_id ox1
      have hx40 : x.1.size = 40 := by rw [← bs_len, ← u3, hexL_length, u2]
      obtain ⟨ad, had, hld⟩ := (hr2.keep hf51 (by simp)).load elRP hx
      refine ⟨⟨by omega, by omega⟩, ad, had, x.1, x.2.1, x.2.2, by rw [Int.toNat_natCast]; exact hld, fun w56 h56 => ?_⟩
      subst h56
      refine ⟨_, boxR_run w51 x, ?_⟩
      have hfa : Fr (fun _ => False) w51 (w51.alloc (.cells (encP x).toArray T_cartularyref12_Row)) := .alloc _ _ _
      have hb57 : (w51.alloc (.cells (encP x).toArray T_cartularyref12_Row)).heap[w51.heap.size]? = some (.cells (encP x).toArray T_cartularyref12_Row (0, 0)) := alloc_new _ _
      generalize w51.alloc (.cells (encP x).toArray T_cartularyref12_Row) = w57 at hfa hb57 ⊢
      generalize w51.heap.size = g at hb57 ⊢
      have hf57 := hf51.trans' hfa
      have hb1 : w57.cell? ⟨g, 1, none⟩ = some (.int .i64 x.2.1) := by rw [cell_blk hb57]; rfl
      have hb2 : w57.cell? ⟨g, 2, none⟩ = some (.int .u32 x.2.2) := by rw [cell_blk hb57]; rfl
      refine ⟨x.1, box_name hb57, (runhex_spec x.1 (rawB x.1) u3 (by omega) w57).mono ?_⟩
      rintro e w60 ⟨rfl, hf60⟩
      obtain ⟨cr, hcr⟩ : ∃ cr : Nat, x.2.2 = cr := ⟨x.2.2.toNat, (Int.toNat_of_nonneg fx.1).symm⟩
      obtain ⟨pl, hpl⟩ : ∃ pl : Nat, x.2.1 = pl := ⟨x.2.1.toNat, (Int.toNat_of_nonneg ox2).symm⟩
      have hraw : rawOf x = (rawB x.1, pl, cr) := by unfold rawOf; rw [hcr, hpl, Int.toNat_natCast, Int.toNat_natCast]
      have hcrl : cr < 4294967296 := by have := fx.2; omega
      have hpll : pl ≤ 1099511627776 := by omega
      refine ⟨_, rfl, cat_size _ _ (by omega), _, hf60.cell hb2 (by simp), ?_⟩
      rw [hcr, wrap_u64 (by omega) (by omega)]
      refine (rbig_spec cr 4 (by omega) (by decide) w60).mono ?_
      rintro e w64 ⟨rfl, hf64⟩
      have hf64' := hf60.trans' hf64
      have hF64 := hf57.trans' hf64'
      have hb64 := hf64'.cell hb1 (by simp)
      have hb4 : (bigB 4 cr).length = 4 := bigB_length _ _
      have hfr : PkM.isFar far (rawOf x) = (decide (far ≤ (pl : Int)) || decide (2147483648 ≤ pl)) := by rw [hraw]; rfl
      refine ⟨_, rfl, cat_size _ _ (by omega), fun bb w' => bb = PkM.isFar far (rawOf x) ∧ w' = w64, ⟨_, hb64, fun h => ⟨?_, rfl⟩, fun h => ⟨_, hb64, ?_, rfl⟩⟩, ?_⟩
      · rw [hpl] at h
        rw [hfr, decide_eq_true (show far ≤ (pl : Int) by have := of_decide_eq_true h; omega), Bool.true_or]
      · rw [hpl] at h
        rw [hfr, decide_eq_false (show ¬ far ≤ (pl : Int) by have := of_decide_eq_false h; omega), Bool.false_or, hpl]
        exact decide_eq_decide.2 (by omega)
      rintro bb w70 ⟨rfl, hw⟩
      replace hw := hw.symm
      subst hw
      have fN : ⟨((l0.take m).flatMap (·.1)).toArray⟩ ++ (⟨(rawB x.1).toArray⟩ : ByteArray) = ⟨((l0.take (m + 1)).flatMap (·.1)).toArray⟩ := by rw [bs_cat, htk, List.flatMap_append, hraw]; simp
      have fC : ⟨((l0.take m).flatMap (fun r => bigB 4 r.2.2)).toArray⟩ ++ (⟨(bigB 4 cr).toArray⟩ : ByteArray) = ⟨((l0.take (m + 1)).flatMap (fun r => bigB 4 r.2.2)).toArray⟩ := by rw [bs_cat, htk, List.flatMap_append, hraw]; simp
      have fV : ∀ v, (if PkM.isFar far (rawOf x) = true then 2147483648 + 0 + ((l0.take m).filter (PkM.isFar far)).length else (rawOf x).2.1) = v → ⟨((PkM.nearV far 0 (l0.take m)).flatMap (bigB 4)).toArray⟩ ++ (⟨(bigB 4 v).toArray⟩ : ByteArray) = ⟨((PkM.nearV far 0 (l0.take (m + 1))).flatMap (bigB 4)).toArray⟩ := fun v hv => by
        rw [bs_cat, htk, PkM.nearV_snoc, List.flatMap_append, hv]; simp
      refine ⟨fun hfar => ⟨by decide, ?_⟩, fun hnear => ⟨_, hb64, ?_⟩⟩
      · have e5 : IntKind.u64.wrap (IntKind.i64.wrap (2147483648 + IntKind.i64.wrap (Int.tdiv ((ByteArray.size ⟨(((l0.take m).filter (PkM.isFar far)).flatMap (fun r => bigB 8 r.2.1)).toArray⟩ : Nat) : Int) 8))) = ((2147483648 + 0 + ((l0.take m).filter (PkM.isFar far)).length : Nat) : Int) := by
          rw [bs_mksize, z4, Int.tdiv_eq_ediv_of_nonneg (Int.natCast_nonneg _)]
          generalize ((l0.take m).filter (PkM.isFar far)).length = u at z5
          rw [show ((8 * u : Nat) : Int) / 8 = (u : Int) by omega, wrap_i64 (x := (u : Int)) (by omega) (by omega), wrap_i64 (by omega) (by omega), wrap_u64 (by omega) (by omega)]; omega
        rw [e5]
        refine (rbig_spec _ 4 (by omega) (by decide) w64).mono ?_
        rintro e w72 ⟨rfl, hf72⟩
        have hb8 : ∀ v, (bigB 4 v).length = 4 := fun v => bigB_length _ _
        refine ⟨_, rfl, cat_size _ _ (by rw [hb8]; omega), _, hf72.cell hb64 (by simp), ?_⟩
        rw [hpl, wrap_u64 (by omega) (by omega)]
        refine (rbig_spec pl 8 (by omega) (by decide) w72).mono ?_
        rintro e w76 ⟨rfl, hf76⟩
        refine ⟨_, rfl, cat_size _ _ (by rw [bigB_length, z4]; omega), ⟨m + 1, rfl, by omega, fN, fC, fV _ (by rw [if_pos hfar]), ?_, (hF64.trans' hf72).trans' hf76⟩, by dsimp only; omega⟩
        rw [bs_cat, htk, List.filter_append, List.filter_cons_of_pos hfar, List.filter_nil, List.flatMap_append, hraw]; simp
      · rw [hpl, wrap_u64 (by omega) (by omega)]
        refine (rbig_spec pl 4 (by omega) (by decide) w64).mono ?_
        rintro e w80 ⟨rfl, hf80⟩
        refine ⟨_, rfl, cat_size _ _ (by rw [bigB_length]; omega), ⟨m + 1, rfl, by omega, fN, fC, fV _ (by rw [if_neg (by rw [hnear]; decide), hraw]), ?_, hF64.trans' hf80⟩, by dsimp only; omega⟩
        rw [htk, List.filter_append, List.filter_cons_of_neg (by rw [hnear]; decide), List.filter_nil, List.append_nil]
    · have hge := of_decide_eq_false hge
      have hm' : m = l0.length := by omega
      subst hm'
      rw [List.take_length] at z1 z2 z3 z4 z5 ⊢
      have h256 := hFl 256
      rw [List.length_range] at h256
      have hml : PkM.magic.length = 8 := rfl
      have hs40 : sum.size = 40 := by rw [← bs_len, ← hrawh, hexL_length, hraw20]
      have hD : ∀ x, (sha1D x).length = 20 := digest_len
      have hbody : (⟨#[255, 116, 79, 99, 0, 0, 0, 2]⟩ : ByteArray) ++ ⟨((List.range 256).flatMap fun c => bigB 4 (PkM.cnt l0 c)).toArray⟩ ++ ⟨(l0.flatMap (·.1)).toArray⟩ ++ ⟨(l0.flatMap (fun r => bigB 4 r.2.2)).toArray⟩ ++ ⟨((PkM.nearV far 0 l0).flatMap (bigB 4)).toArray⟩ ++ ⟨((l0.filter (PkM.isFar far)).flatMap (fun r => bigB 8 r.2.1)).toArray⟩ ++ ⟨(rawB sum).toArray⟩ = ⟨(PkM.bodyT far l0 (rawB sum)).toArray⟩ := by
        show (⟨PkM.magic.toArray⟩ : ByteArray) ++ _ ++ _ ++ _ ++ _ ++ _ ++ _ = _
        rw [bs_cat, bs_cat, bs_cat, bs_cat, bs_cat, bs_cat]
        unfold PkM.bodyT
        simp only [List.append_assoc]
      have conv : ∀ {w' w'' : World}, w''.heap[w'.heap.size]? = some (.cells #[.int .u8 255, .int .u8 116, .int .u8 79, .int .u8 99, .int .u8 0, .int .u8 0, .int .u8 0, .int .u8 2] T_uint8 (0, 0)) → (convert T_S_uint8 T_string (.slice (some ⟨w'.heap.size, 0, none⟩) 8 8)).run Try.prog w'' = .ok (.string ⟨#[255, 116, 79, 99, 0, 0, 0, 2]⟩) w'' := fun h =>
        bytes_str (e := T_uint8) (bs := [255, 116, 79, 99, 0, 0, 0, 2]) (by kernel_rfl) (by kernel_rfl) (by kernel_rfl) 8 (fun i v hv => ⟨_, rfl, by rw [add_lit, cell_blk h, Nat.zero_add, ← Array.getElem?_toList]; exact hv⟩) rfl
      have uh : ∀ w', Calls Try.prog F_cartularyref01_Unhex #[.string sum] w' fun e w'' => e = .returned (.string ⟨(rawB sum).toArray⟩) ∧ Fr (fun _ => False) w' w'' := fun w' => runhex_spec _ _ hrawh (by omega) w'
      have sM : ByteArray.size ⟨#[255, 116, 79, 99, 0, 0, 0, 2]⟩ = 8 := rfl
      have sF : ByteArray.size ⟨((List.range 256).flatMap fun c => bigB 4 (PkM.cnt l0 c)).toArray⟩ = 1024 := by rw [bs_mksize, h256]
      have sN : ByteArray.size ⟨(l0.flatMap (·.1)).toArray⟩ ≤ 20000 := by rw [bs_mksize]; exact z1
      have sC : ByteArray.size ⟨(l0.flatMap (fun r => bigB 4 r.2.2)).toArray⟩ ≤ 4000 := by rw [bs_mksize]; exact z2
      have sV : ByteArray.size ⟨((PkM.nearV far 0 l0).flatMap (bigB 4)).toArray⟩ ≤ 4000 := by rw [bs_mksize]; exact z3
      have sP : ByteArray.size ⟨((l0.filter (PkM.isFar far)).flatMap (fun r => bigB 8 r.2.1)).toArray⟩ ≤ 8000 := by rw [bs_mksize, z4]; omega
      have sU : ByteArray.size ⟨(rawB sum).toArray⟩ = 20 := by rw [bs_mksize]; exact hraw20
      generalize (⟨((List.range 256).flatMap fun c => bigB 4 (PkM.cnt l0 c)).toArray⟩ : ByteArray) = F at sF hbody ⊢
      generalize (⟨(l0.flatMap (·.1)).toArray⟩ : ByteArray) = N at sN hbody ⊢
      generalize (⟨(l0.flatMap (fun r => bigB 4 r.2.2)).toArray⟩ : ByteArray) = C at sC hbody ⊢
      generalize (⟨((PkM.nearV far 0 l0).flatMap (bigB 4)).toArray⟩ : ByteArray) = V at sV hbody ⊢
      generalize (⟨((l0.filter (PkM.isFar far)).flatMap (fun r => bigB 8 r.2.1)).toArray⟩ : ByteArray) = P at sP hbody ⊢
      generalize (⟨(rawB sum).toArray⟩ : ByteArray) = U at sU hbody uh ⊢
      generalize (⟨#[255, 116, 79, 99, 0, 0, 0, 2]⟩ : ByteArray) = M at sM hbody conv ⊢
      have fin : ∀ w', Fr (fun _ => False) w2 w' → Calls Try.prog F_cartularyref02_Sum1 #[.string (M ++ F ++ N ++ C ++ V ++ P ++ U)] w' fun e w'' => ∃ s : ByteArray, e = .returned (.string s) ∧ (M ++ F ++ N ++ C ++ V ++ P ++ U).size + s.size ≤ 9223372036854775807 ∧
          (Value.string (M ++ F ++ N ++ C ++ V ++ P ++ U ++ s) = .string ⟨(PkM.textT sha1D far l0 (rawB sum)).toArray⟩ ∧ Fr (fun _ => False) w w'') := fun w' hf' => by
        refine (rsum1_spec _ (by simp only [ByteArray.size_append]; omega) w').mono ?_
        rintro e w'' ⟨rfl, hf''⟩
        have hd := hD (M ++ F ++ N ++ C ++ V ++ P ++ U).data.toList
        refine ⟨_, rfl, ?_, ?_, (hf2.trans' hf').trans' hf''⟩
        · have hd2 : (⟨(digest block1 start1 (M ++ F ++ N ++ C ++ V ++ P ++ U).data.toList).toArray⟩ : ByteArray).size = 20 := by rw [bs_mksize]; exact hd
          rw [hd2]
          simp only [ByteArray.size_append]; omega
        · rw [hbody, bs_cat, bs_mk]
          rfl
      have hz1 : M.size + F.size ≤ 9223372036854775807 := by omega
      have hz2 : (M ++ F).size + N.size ≤ 9223372036854775807 := by simp only [ByteArray.size_append]; omega
      have hz3 : (M ++ F ++ N).size + C.size ≤ 9223372036854775807 := by simp only [ByteArray.size_append]; omega
      have hz4 : (M ++ F ++ N ++ C).size + V.size ≤ 9223372036854775807 := by simp only [ByteArray.size_append]; omega
      have hz5 : (M ++ F ++ N ++ C ++ V).size + P.size ≤ 9223372036854775807 := by simp only [ByteArray.size_append]; omega
      have hz6 : (M ++ F ++ N ++ C ++ V ++ P).size + U.size ≤ 9223372036854775807 := by simp only [ByteArray.size_append]; omega
      refine fun w82 d82 => ⟨fun w' => Fr (fun _ => False) w82 w', .drew _ (.refl _), fun w84 h84 => ?_, (uh w82).mono ?_⟩
      · have hf51' := hf51.trans' (.drew _ d82)
        have hb84 : w84.heap[w82.heap.size]? = some (.cells #[.int .u8 255, .int .u8 116, .int .u8 79, .int .u8 99, .int .u8 0, .int .u8 0, .int .u8 0, .int .u8 2] T_uint8 (0, 0)) := by rw [h84]; exact alloc_new _ _
        have hf84 : Fr (fun _ => False) w82 w84 := by rw [h84]; exact .alloc _ _ _
        refine ⟨hf84, ⟨w84, M, conv hb84, hf84, hz1, hz2, hz3, hz4, hz5, (uh w84).mono ?_⟩, (uh w84).mono ?_⟩
        · rintro e w88 ⟨rfl, hf88⟩
          have := hf84.trans' hf88
          exact ⟨U, rfl, this, hz6, fin w88 (hf51'.trans' this)⟩
        · rintro e w94 ⟨rfl, hf94⟩
          have := hf84.trans' hf94
          exact ⟨U, rfl, this, w94, M, conv (hf94.keep hb84 (by simp)), this, hz1, hz2, hz3, hz4, hz5, hz6, fin w94 (hf51'.trans' this)⟩
      · rintro e w102 ⟨rfl, hf102⟩
        have hf51' := hf51.trans' (.drew _ d82)
        refine ⟨U, rfl, hf102, fun w104 h104 => ?_⟩
        have hb104 : w104.heap[w102.heap.size]? = some (.cells #[.int .u8 255, .int .u8 116, .int .u8 79, .int .u8 99, .int .u8 0, .int .u8 0, .int .u8 0, .int .u8 2] T_uint8 (0, 0)) := by rw [h104]; exact alloc_new _ _
        have hf104 : Fr (fun _ => False) w82 w104 := by rw [h104]; exact hf102.trans' (.alloc _ _ _)
        exact ⟨hf104, w104, M, conv hb104, hf104, hz1, hz2, hz3, hz4, hz5, hz6, fin w104 (hf51'.trans' hf104)⟩
end Go.Proofs.Ytoagdpjickippaa

/- Formulas of 1 Go functions of this seat (written by a program of the author's, vcgen.py), and that each is enough for the call. No condition. -/
set_option linter.unusedVariables false
namespace Go.Proofs.Ytoagdpjickippaa
open Go Vc Go.Proofs
set_option maxRecDepth 100000
/-- cartularylaw12.PackidxBuilds -/
def vc_cartularylaw12_PackidxBuilds (x0a : Option Addr) (x0n : Nat) (x0c : Nat) (x1 : ByteArray) (x2 : Int) (x3 : ByteArray) (w : World) (R : Value → World → Prop) : Prop :=
  ∀ w1 : World,
  (w1 = World.alloc w (Obj.cells (Array.mk []) 32) →
    ∀ w2 : World,
    (w2 = World.alloc w1 (Obj.cells (Array.mk []) 44) →
      ∃ I3 : Sl → Sl → World → Prop, ((∃ I4 : Sl → Sl → Int → World → Prop, ∃ I5 : Sl → Sl → Int → World → Nat, (I4 (Sl.mk (some (Addr.mk (Array.size (World.heap w)) 0 none)) 0 0) (Sl.mk (some (Addr.mk (Array.size (World.heap w1)) 0 none)) 0 0) 0 w2 ∧
        ∀ l6 : Sl,
        ∀ l7 : Sl,
        ∀ n8 : Int,
        ∀ w9 : World,
        (I4 l6 l7 n8 w9 →
          (((decide (n8 < (↑x0n : Int)) = true →
             (((decide (n8 < 30) = true →
                ((0 ≤ n8 ∧
                  n8 < (↑x0n : Int)) ∧
                 ∃ a10 : Addr, (x0a = some a10 ∧
                  ∃ s11 : ByteArray, ∃ n12 : Int, ∃ n13 : Int, (Sem.run Try.prog (loadVar 32 (Addr.add a10 (Int.toNat n8 * 3))) w9 = Result.ok (Value.agg (Array.mk [Value.string s11, Value.int IntKind.i64 n12, Value.int IntKind.u32 n13])) w9 ∧
                   ∀ w14 : World,
                   (w14 = World.alloc w9 (Obj.cells (Array.mk [Value.string s11, Value.int IntKind.i64 n12, Value.int IntKind.u32 n13]) 32) →
                     ∃ w15 : World, ∃ l16 : Sl, (Sem.run Try.prog (Builtin.append_ (Array.mk [22, 22]) 22 (Array.mk [Value.slice l6.1 l6.2 l6.3, Value.slice (some (Addr.mk (Array.size (World.heap w9)) 0 none)) 1 1])) w14 = Result.ok (Value.slice l16.1 l16.2 l16.3) w15 ∧
                      ((0 ≤ n8 ∧
                        n8 < (↑x0n : Int)) ∧
                       ∃ a17 : Addr, (x0a = some a17 ∧
                        ∃ s18 : ByteArray, ∃ n19 : Int, ∃ n20 : Int, (Sem.run Try.prog (loadVar 32 (Addr.add a17 (Int.toNat n8 * 3))) w15 = Result.ok (Value.agg (Array.mk [Value.string s18, Value.int IntKind.i64 n19, Value.int IntKind.u32 n20])) w15 ∧
                         ∀ w21 : World,
                         (w21 = World.alloc w15 (Obj.cells (Array.mk [Value.string s18, Value.int IntKind.i64 n19, Value.int IntKind.u32 n20]) 44) →
                           ∃ w22 : World, ∃ l23 : Sl, (Sem.run Try.prog (Builtin.append_ (Array.mk [39, 39]) 39 (Array.mk [Value.slice l7.1 l7.2 l7.3, Value.slice (some (Addr.mk (Array.size (World.heap w15)) 0 none)) 1 1])) w21 = Result.ok (Value.slice l23.1 l23.2 l23.3) w22 ∧
                            (I4 (Sl.mk l16.1 l16.2 l16.3) (Sl.mk l23.1 l23.2 l23.3) (IntKind.wrap IntKind.i64 (n8 + 1)) w22 ∧
                             I5 (Sl.mk l16.1 l16.2 l16.3) (Sl.mk l23.1 l23.2 l23.3) (IntKind.wrap IntKind.i64 (n8 + 1)) w22 < I5 l6 l7 n8 w9))))))))))))) ∧
              (decide (n8 < 30) = false →
                I3 (Sl.mk l6.1 l6.2 l6.3) (Sl.mk l7.1 l7.2 l7.3) w9)))) ∧
           (decide (n8 < (↑x0n : Int)) = false →
             I3 (Sl.mk l6.1 l6.2 l6.3) (Sl.mk l7.1 l7.2 l7.3) w9))))) ∧
       ∀ l24 : Sl,
       ∀ l25 : Sl,
       ∀ w26 : World,
       (I3 l24 l25 w26 →
         Calls Try.prog (6 : Nat) (Array.mk [Value.slice l24.1 l24.2 l24.3, Value.string x1, Value.int IntKind.i64 x2]) (w26) (fun e27 w28 =>
           ∃ s29 : ByteArray, ∃ n30 : Int, (e27 = Ending.returned (Value.tuple (Array.mk [Value.string s29, Value.int IntKind.i64 n30])) ∧
            Calls Try.prog (14 : Nat) (Array.mk [Value.slice l25.1 l25.2 l25.3, Value.string x1]) (w28) (fun e31 w32 =>
              ∃ n33 : Int, (e31 = Ending.returned (Value.int IntKind.i64 n33) ∧
               Calls Try.prog (7 : Nat) (Array.mk []) (w32) (fun e34 w35 =>
                 ∃ b36 : Bool, (e34 = Ending.returned (Value.bool b36) ∧
                  ((((!b36) = true →
                     R (Value.bool false) w35)) ∧
                   ((!b36) = false →
                     ((((n30 != n33) = true →
                        R (Value.bool false) w35)) ∧
                      ((n30 != n33) = false →
                        ∃ I37 : Int → World → Prop, ∃ I38 : Int → World → Nat, (I37 0 w35 ∧
                         ∀ n39 : Int,
                         ∀ w40 : World,
                         (I37 n39 w40 →
                           (((decide (n39 < (↑l24.2 : Int)) = true →
                              ∀ w41 : World,
                              (Drew w40 w41 →
                                ∃ I42 : World → Prop, (I42 w41 ∧
                                 ((0 ≤ n39 ∧
                                   n39 < (↑l24.2 : Int)) ∧
                                  ∃ a43 : Addr, (l24.1 = some a43 ∧
                                   ((0 ≤ n39 ∧
                                     n39 < (↑l25.2 : Int)) ∧
                                    ∃ a44 : Addr, (l25.1 = some a44 ∧
                                     ∃ s45 : ByteArray, ∃ n46 : Int, ∃ n47 : Int, ((∀ w48 : World,
                                      (I42 w48 →
                                        Sem.run Try.prog (loadVar 32 (Addr.add a43 (Int.toNat n39 * 3))) w48 = Result.ok (Value.agg (Array.mk [Value.string s45, Value.int IntKind.i64 n46, Value.int IntKind.u32 n47])) w48)) ∧
                                      ∃ s49 : ByteArray, ∃ n50 : Int, ∃ n51 : Int, ((∀ w52 : World,
                                       (I42 w52 →
                                         Sem.run Try.prog (loadVar 44 (Addr.add a44 (Int.toNat n39 * 3))) w52 = Result.ok (Value.agg (Array.mk [Value.string s49, Value.int IntKind.i64 n50, Value.int IntKind.u32 n51])) w52)) ∧
                                       ((((!(ByteArray.toList s45 == ByteArray.toList s49 && (n46 == n50 && n47 == n51))) = true →
                                          R (Value.bool false) w41)) ∧
                                        ((!(ByteArray.toList s45 == ByteArray.toList s49 && (n46 == n50 && n47 == n51))) = false →
                                          (I37 (IntKind.wrap IntKind.i64 (n39 + 1)) w41 ∧
                                           I38 (IntKind.wrap IntKind.i64 (n39 + 1)) w41 < I38 n39 w40))))))))))))) ∧
                            (decide (n39 < (↑l24.2 : Int)) = false →
                              ((((n33 != 0) = true →
                                 R (Value.bool (ByteArray.toList s29 == ByteArray.toList (ByteArray.mk (Array.mk [])))) w40)) ∧
                               ((n33 != 0) = false →
                                 Calls Try.prog (8 : Nat) (Array.mk [Value.string s29]) (w40) (fun e53 w54 =>
                                   ∃ p55 : Option Addr, ∃ n56 : Int, (e53 = Ending.returned (Value.tuple (Array.mk [Value.pointer p55, Value.int IntKind.i64 n56])) ∧
                                    ((((n56 == 0) = true →
                                       Calls Try.prog (15 : Nat) (Array.mk [Value.slice l25.1 l25.2 l25.3, Value.string x1, Value.int IntKind.i64 x2]) (w54) (fun e57 w58 =>
                                         ∃ s59 : ByteArray, (e57 = Ending.returned (Value.string s59) ∧
                                          ((((ByteArray.toList s29 == ByteArray.toList s59) = true →
                                             Calls Try.prog (16 : Nat) (Array.mk [Value.slice l25.1 l25.2 l25.3]) (w58) (fun e60 w61 =>
                                               ∃ l62 : Sl, (e60 = Ending.returned (Value.slice l62.1 l62.2 l62.3) ∧
                                                Calls Try.prog (13 : Nat) (Array.mk [Value.pointer p55, Value.slice l62.1 l62.2 l62.3, Value.string x1, Value.string x3]) (w61) (fun e63 w64 =>
                                                  ∃ b65 : Bool, (e63 = Ending.returned (Value.bool b65) ∧
                                                   R (Value.bool b65) w64)))))) ∧
                                           ((ByteArray.toList s29 == ByteArray.toList s59) = false →
                                             R (Value.bool false) w58)))))) ∧
                                     ((n56 == 0) = false →
                                       R (Value.bool false) w54))))))))))))))))))))))))
theorem vc_cartularylaw12_PackidxBuilds_ok {x0a : Option Addr} {x0n : Nat} {x0c : Nat} {x1 : ByteArray} {x2 : Int} {x3 : ByteArray} {w : World} {R : Value → World → Prop} {R' : Ending → World → Prop} (h : vc_cartularylaw12_PackidxBuilds x0a x0n x0c x1 x2 x3 w R) (hR : ∀ v w', R v w' → R' (.returned v) w') :
    Calls Try.prog 5 #[.slice x0a x0n x0c, .string x1, .int .i64 x2, .string x3] w R' :=
  calls_of_body (vs := [(.slice x0a x0n x0c, false), (.string x1, false), (.int .i64 x2, false), (.string x3, false)]) (ty := ty) (ann := ⟨[(7, [(9, .slice), (10, .slice)])], [(3, [(9, .slice), (10, .slice), (11, .int .i64)]), (12, [(63, .int .i64)])], [(14, .held [(0, true), (1, true), (2, true), (4, true), (5, true), (6, true), (3, true), (7, true), (8, true)])], []⟩) (c := Try.f5.body.getD .skip) (by kernel_rfl) Try.func5 (by kernel_rfl) (by kernel_rfl) (Eq.mp (by kernel_rfl) h) hR
end Go.Proofs.Ytoagdpjickippaa

/- The law PackidxBuilds walked. Conditions: the names are no longer than memory. -/
set_option linter.unusedVariables false
namespace Go.Proofs.Ytoagdpjickippaa
open Go Vc HexM SumM ShaM Go.Proofs

theorem builds_walk {a : Option Addr} {n c : Nat} {W : World} {xs : List PRow} (hr : ReadsK encP 3 W a xs) (hn : xs.length = n) (hz : ∀ x ∈ xs, x.1.size ≤ 140737488355328) (hfit : ∀ x ∈ xs, Fits x) (sum : ByteArray) (hs : sum.size ≤ 140737488355328) (far : Int) (id : ByteArray) :
    Calls Try.prog F_cartularylaw12_PackidxBuilds #[.slice a n c, .string sum, .int .i64 far, .string id] W fun e w' => e = .returned (.bool true) ∧ RowKit.Below W.heap.size W w' := by
  refine vc_cartularylaw12_PackidxBuilds_ok (R := fun v w' => v = .bool true ∧ Fr (fun _ => False) W w') ?_ (fun v w' h => ⟨by rw [h.1], (h.2.mono fun _ _ h => h.elim : Fr (fun k => W.heap.size ≤ k) W w').below (Nat.le_refl _)⟩)
  intro w1 h1 w2 h2
  have hf1 : Fr (fun _ => False) W w1 := by rw [h1]; exact .alloc _ _ _
  have ho1 : OwnK encP 3 w1 W.heap.size T_packidx_Row ⟨some ⟨W.heap.size, 0, none⟩, 0, 0⟩ [] := by rw [h1]; exact .empty W _
  have hs1 : w1.heap.size = W.heap.size + 1 := by rw [h1]; exact Array.size_push _
  have hf2 : Fr (fun _ => False) w1 w2 := by rw [h2]; exact .alloc _ _ _
  have ho2 : OwnK encP 3 w2 W.heap.size T_cartularyref12_Row ⟨some ⟨w1.heap.size, 0, none⟩, 0, 0⟩ [] := by rw [h2]; exact (OwnK.empty w1 _).mono hf1.size
  clear h1 h2
  refine ⟨fun l l' w' => OwnK encP 3 w' W.heap.size T_packidx_Row l (xs.take 30) ∧ OwnK encP 3 w' W.heap.size T_cartularyref12_Row l' (xs.take 30) ∧ Fr (fun _ => False) W w', ⟨fun l l' i w' => ∃ k : Nat, i = k ∧ k ≤ n ∧ k ≤ 30 ∧ OwnK encP 3 w' W.heap.size T_packidx_Row l (xs.take k) ∧ OwnK encP 3 w' W.heap.size T_cartularyref12_Row l' (xs.take k) ∧
      (∀ x y, l.a = some x → l'.a = some y → x.block ≠ y.block) ∧ Fr (fun _ => False) W w', fun _ _ i _ => n - i.toNat, ⟨0, rfl, Nat.zero_le _, Nat.zero_le _, ho1.keep hf2 (by simp), ho2, fun x y hx hy => by cases hx; cases hy; simp only; omega, hf1.trans' hf2⟩, ?_⟩, ?_⟩
  · clear ho1 ho2 hf1 hf2
    rintro l6 l7 i w9 ⟨k, rfl, hk, hk30, ho6, ho7, hne, hf9⟩
    refine ⟨fun hlt => ⟨fun hlt2 => ?_, fun hge2 => ?_⟩, fun hge => ?_⟩
    · have hlt := of_decide_eq_true hlt
      have hlt2 := of_decide_eq_true hlt2
      have hkl : k < xs.length := by omega
      have hx : xs[k]? = some xs[k] := List.getElem?_eq_getElem hkl
      generalize xs[k] = x at hx
      have htk : xs.take (k + 1) = xs.take k ++ [x] := by rw [List.take_add_one, hx]; rfl
      have hln : (xs.take k).length = k := by rw [List.length_take]; omega
      have e1 : IntKind.i64.wrap ((k : Int) + 1) = ((k + 1 : Nat) : Int) := by rw [wrap_i64 (by omega) (by omega)]; omega
      rw [e1]
      obtain ⟨ad, had, hld⟩ := (hr.keep hf9 (by simp)).load elP hx
      refine ⟨⟨by omega, by omega⟩, ad, had, x.1, x.2.1, x.2.2, by rw [Int.toNat_natCast]; exact hld, fun w14 h14 => ?_⟩
      obtain ⟨w15, l16, hr15, ho15, hf15, hs15⟩ := append_oneK elP ho6 (x := x) (by rw [hln]; simp only [maxLen]; omega) (by rw [hln]; omega) hf9.size h14
      have hF15 : Fr (fun _ => False) W w15 := hf9.trans hf15 fun q hq ⟨y, hy, e⟩ => by have := (ho6.blk hy).1; omega
      have ho7' := ho7.keep hf15 fun y hy ⟨z, hz2, e⟩ => hne z y hz2 hy e.symm
      have hne' : ∀ x y, l16.a = some x → l7.a = some y → x.block ≠ y.block := fun z y hz2 hy e => by
        rcases hs15 z hz2 with ⟨z', hz', e'⟩ | hnew
        · exact hne z' y hz' hy (e'.trans e)
        · have := (ho7.blk hy).2; omega
      obtain ⟨ad2, had2, hld2⟩ := (hr.keep hF15 (by simp)).load elP hx
      refine ⟨w15, l16, hr15, ⟨by omega, by omega⟩, ad2, had2, x.1, x.2.1, x.2.2, by rw [Int.toNat_natCast]; exact hld2, fun w21 h21 => ?_⟩
      obtain ⟨w22, l23, hr22, ho22, hf22, hs22⟩ := append_oneK elRP ho7' (x := x) (by rw [hln]; simp only [maxLen]; omega) (by rw [hln]; omega) hF15.size h21
      refine ⟨w22, l23, hr22, ⟨k + 1, rfl, by omega, by omega, by rw [htk]; exact ho15.keep hf22 fun y hy ⟨z, hz2, e⟩ => hne' y z hy hz2 e, by rw [htk]; exact ho22, fun z y hz2 hy e => ?_, hF15.trans hf22 fun q hq ⟨y, hy, e⟩ => by have := (ho7.blk hy).1; omega⟩, by dsimp only; omega⟩
      rcases hs22 y hy with ⟨y', hy', e'⟩ | hnew
      · exact hne' z y' hz2 hy' (e.trans e'.symm)
      · have := (ho15.blk hz2).2; omega
    · have hge2 := of_decide_eq_false hge2
      have hk' : k = 30 := by omega
      subst hk'
      exact ⟨ho6, ho7, hf9⟩
    · have hge := of_decide_eq_false hge
      have hk' : k = n := by omega
      have : xs.take 30 = xs.take k := by rw [List.take_of_length_le (by omega), List.take_of_length_le (by omega)]
      rw [this]
      exact ⟨ho6, ho7, hf9⟩
  clear ho1 ho2 hf1 hf2 hs1 hr
  rintro l24 l25 w26 ⟨ho24, ho25, hf26⟩
  have hz' : ∀ x ∈ xs.take 30, x.1.size ≤ 140737488355328 := fun x hx => hz x (List.mem_of_mem_take hx)
  have hfit' : ∀ x ∈ xs.take 30, Fits x := fun x hx => hfit x (List.mem_of_mem_take hx)
  have hl30 : (xs.take 30).length ≤ 30 := by rw [List.length_take]; omega
  generalize xs.take 30 = rs at ho24 ho25 hz' hfit' hl30
  have hr24 := ho24.reads fun _ => rfl
  have hr25 := ho25.reads fun _ => rfl
  have hl24 := ho24.1
  have hl25 := ho25.1
  refine (build_spec hr24 hl24 hz' hfit' sum hs far).mono ?_
  rintro e w28 ⟨v, rfl, hf28, hB⟩
  have key : ∀ (s : ByteArray) (m : Int), v = .tuple #[.string s, .int .i64 m] → ((m = 4 ∧ s = ⟨#[]⟩ ∧ ¬ (CheckP rs ∧ isId sum.data.toList = true)) ∨ (m = 0 ∧ s = ⟨(PkM.textT sha1D far ((sortP rs).map rawOf) (rawB sum)).toArray⟩ ∧ CheckP rs ∧ isId sum.data.toList = true)) → ∃ s29 : ByteArray, ∃ n30 : Int, v = .tuple #[.string s29, .int .i64 n30] ∧ ((n30 = 4 ∧ s29 = ⟨#[]⟩ ∧ ¬ (CheckP rs ∧ isId sum.data.toList = true)) ∨ (n30 = 0 ∧ s29 = ⟨(PkM.textT sha1D far ((sortP rs).map rawOf) (rawB sum)).toArray⟩ ∧ CheckP rs ∧ isId sum.data.toList = true)) := fun s m h h2 => ⟨s, m, h, h2⟩
  have hv : ∃ s29 : ByteArray, ∃ n30 : Int, v = .tuple #[.string s29, .int .i64 n30] ∧ ((n30 = 4 ∧ s29 = ⟨#[]⟩ ∧ ¬ (CheckP rs ∧ isId sum.data.toList = true)) ∨ (n30 = 0 ∧ s29 = ⟨(PkM.textT sha1D far ((sortP rs).map rawOf) (rawB sum)).toArray⟩ ∧ CheckP rs ∧ isId sum.data.toList = true)) := by
    rcases hB with ⟨_, h⟩ | ⟨_, ⟨h, h2⟩ | ⟨h, h2, h3⟩⟩
    · omega
    · exact key _ _ h (.inl ⟨rfl, rfl, h2⟩)
    · exact key _ _ h (.inr ⟨rfl, rfl, h2, h3⟩)
  clear hB key
  obtain ⟨s29, n30, rfl, hv⟩ := hv
  have hF28 := hf26.trans' hf28
  refine ⟨s29, n30, rfl, (rcheck_spec (hr25.keep hf28 (by simp)) hl25 ho25.cap hz' sum hs).mono ?_⟩
  rintro e w32 ⟨v, rfl, hC, hf32⟩
  have hv2 : v = .int .i64 n30 := by
    rcases hC with ⟨_, h⟩ | ⟨h, _, h2⟩ | ⟨h, _, h2, h3⟩
    · omega
    · rcases hv with ⟨rfl, _, _⟩ | ⟨_, _, h3, h4⟩
      · exact h
      · exact absurd ⟨h3, h4⟩ h2
    · rcases hv with ⟨_, _, h4⟩ | ⟨rfl, _, _, _⟩
      · exact absurd ⟨h2, h3⟩ h4
      · exact h
  subst hv2
  clear hC
  refine ⟨n30, rfl, (awake12_spec w32).mono ?_⟩
  rintro e w35 ⟨rfl, hf35⟩
  have hf35' := (hf28.trans' hf32).trans' hf35
  have hF35 := hf26.trans' hf35'
  refine ⟨true, rfl, fun h => (by cases h), fun _ => ⟨fun h => (by simp at h), fun _ => ⟨fun i w' => ∃ k : Nat, i = k ∧ k ≤ l24.len ∧ Fr (fun _ => False) w35 w', fun i _ => l24.len - i.toNat, ⟨0, rfl, Nat.zero_le _, .refl _ _⟩, ?_⟩⟩⟩
  rintro i w40 ⟨k, rfl, hk, hf40⟩
  refine ⟨fun hlt w41 d41 => ?_, fun hge => ?_⟩
  · have hlt := of_decide_eq_true hlt
    have hkl : k < rs.length := by omega
    have hx : rs[k]? = some rs[k] := List.getElem?_eq_getElem hkl
    generalize rs[k] = x at hx
    have e1 : IntKind.i64.wrap ((k : Int) + 1) = ((k + 1 : Nat) : Int) := by rw [wrap_i64 (by omega) (by omega)]; omega
    rw [e1, Int.toNat_natCast]
    have hf41 := hf40.trans' (.drew _ d41)
    obtain ⟨ad, had, _⟩ := hr24.load elP hx
    obtain ⟨ad2, had2, _⟩ := hr25.load elRP hx
    refine ⟨fun w' => Fr (fun _ => False) w35 w', hf41, ⟨by omega, by omega⟩, ad, had, ⟨by omega, by omega⟩, ad2, had2, x.1, x.2.1, x.2.2, fun w48 h48 => ?_, x.1, x.2.1, x.2.2, fun w52 h52 => ?_, fun h => ?_, fun _ => ⟨⟨k + 1, rfl, by omega, hf41⟩, by dsimp only; omega⟩⟩
    · obtain ⟨ad', had', h⟩ := (hr24.keep (hf35'.trans' h48) (by simp)).load elP hx
      rw [had] at had'; cases had'; exact h
    · obtain ⟨ad', had', h⟩ := (hr25.keep (hf35'.trans' h52) (by simp)).load elRP hx
      rw [had2] at had'; cases had'; exact h
    · rw [beq_self_eq_true, beq_self_eq_true, beq_self_eq_true] at h; cases h
  · have hF40 := hF35.trans' hf40
    have hf40' := hf35'.trans' hf40
    rcases hv with ⟨rfl, rfl, hno⟩ | ⟨rfl, rfl, hchk, hid⟩
    · exact ⟨fun _ => ⟨by rw [beq_self_eq_true], hF40⟩, fun h => by cases h⟩
    · refine ⟨fun h => (by cases h), fun _ => (parse_build hchk hfit' hid (by omega) far w40).mono ?_⟩
      rintro e w54 ⟨b, rfl, hI, hf54⟩
      have hf54' := hf40'.trans' hf54
      obtain ⟨_, _, hrise⟩ := text_len hchk hfit' hid (by omega) far
      refine ⟨_, 0, rfl, fun _ => (rtext_spec (hr25.keep hf54' (by simp)) hl25 (by omega) hchk hfit' sum hid far).mono ?_, fun h => by cases h⟩
      rintro e w58 ⟨rfl, hf58⟩
      have hf58' := hf54'.trans' hf58
      refine ⟨_, rfl, fun _ => (rsorted_spec (hr25.keep hf58' (by simp)) hl25 (by omega)).mono ?_, fun h => by rw [beq_self_eq_true] at h; cases h⟩
      rintro e w61 ⟨l62, rfl, ho62, hf61⟩
      have hp := sortP_perm rs
      have hchk' := checkP_perm hp.symm hchk
      have hsl : (sortP rs).length = rs.length := hp.length_eq
      refine ⟨l62, rfl, (is_spec ((hI.keep hf58).keep hf61) (ho62.reads fun _ => rfl) ho62.1 (by have := ho62.1; omega) hrise (fun r hr e => ?_) id).mono ?_⟩
      · have hid := (hchk'.1 r hr).1
        rw [e] at hid
        exact absurd hid (by decide)
      rintro e w64 ⟨rfl, hf64⟩
      exact ⟨true, rfl, rfl, (hf26.trans' hf58').trans' (hf61.trans' hf64)⟩
end Go.Proofs.Ytoagdpjickippaa

/- Slices of structs that came in, opened to cells. No condition: for all programs. -/
set_option linter.unusedVariables false
namespace Vc
open Go Go.ChangeShapes Go.WideShapes Go.Deep
section
variable {H : Type} {enc : TypeId × Value → H} {P : Program} {w : World} {base : Nat} {spare : Nat → Bool} {held : Bool}
/-- What the fields of an element say, its cells say. -/
def FieldsSay (enc : TypeId × Value → H) (P : Program) (w : World) (base : Nat) (spare : Nat → Bool) (held : Bool) (fs : Array Field) (Q : List Value → Prop) : Prop :=
  ∀ n (cs : List Value), cs.length = fs.size → (∀ (j : Nat) (f : Field) (v : Value), fs[j]? = some f → cs[j]? = some v → ∃ y, DataW.trod enc P w base spare held n f.type [v] = some y) → Q cs
theorem open_rows {t e : TypeId} {fs : Array Field} {fuel : Nat} {a : Option Addr} {len cap : Nat} {x : DataW H × List MemPlace} {Q : List Value → Prop} (ht : P.underlying t = some (.slice e)) (he : P.underlying e = some (.struct fs))
    (hone : oneCellFields P fs = true) (hC : P.cellsOf e = fs.size) (hQ : FieldsSay enc P w base spare held fs Q) (h : DataW.trod enc P w base spare held fuel t [.slice a len cap] = some x) : IsRows fs.size Q w a len := by
  intro i hi
  rcases open_slice ht h with ⟨h0, _⟩ | ⟨b, l, c, m, n, D, Pl, hcs, hb, hl, hm, hmm, hx, hi'⟩
  · simp only [List.cons.injEq, Value.slice.injEq] at h0; omega
  · simp only [List.cons.injEq, Value.slice.injEq, and_true] at hcs
    obtain ⟨rfl, rfl, rfl⟩ := hcs
    obtain ⟨cs, hc, htr⟩ := hi' i (by rw [hmm]; split <;> omega)
    obtain ⟨ys, n', _, _, hlen, hyl, hf⟩ := DataW.trod_struct he htr
    obtain ⟨_, hcl, hat⟩ := World.cells?_some hc
    rw [hC] at hcl hat
    refine ⟨b, cs, rfl, hcl, hQ n' cs hcl ?_, ?_⟩
    · intro j f v hj hv
      obtain ⟨ho, hk⟩ := hone_of hone j f hj
      have hjl : j < fs.size := (Array.getElem?_eq_some_iff.1 hj).1
      have h1 := hf j f hj
      have h2 : (cs.drop j).take 1 = [v] := by
        obtain ⟨hjl', hv'⟩ := List.getElem?_eq_some_iff.1 hv
        rw [List.drop_eq_getElem_cons hjl', hv']; rfl
      rw [ho, hk, h2, List.getElem?_eq_getElem (show j < ys.length by omega)] at h1
      exact ⟨_, h1⟩
    · intro j v hv
      have hjl := (List.getElem?_eq_some_iff.1 hv).1
      rw [← hv, ← hat j (by omega), add_add]
/-- As above, and what was read takes no more bytes than memory has. -/
def FieldsSayW (enc : TypeId × Value → H) (P : Program) (w : World) (base : Nat) (spare : Nat → Bool) (held : Bool) (fs : Array Field) (Q : List Value → Prop) : Prop :=
  ∀ n (cs : List Value), cs.length = fs.size → (∀ (j : Nat) (f : Field) (v : Value), fs[j]? = some f → cs[j]? = some v → ∃ y, DataW.trod enc P w base spare held n f.type [v] = some y ∧ (y.1.weights P f.type).all (· ≤ reachBytes) = true) → Q cs
theorem weightsAll_mem {e : TypeId} : ∀ {ds : List (DataW H)} {d : DataW H}, d ∈ ds → ∀ n ∈ d.weights P e, n ∈ DataW.weightsAll P e ds
  | d0 :: ds, d, h, n, hn => by
    simp only [DataW.weightsAll, List.mem_append]
    rcases List.mem_cons.1 h with rfl | h
    · exact .inl hn
    · exact .inr (weightsAll_mem h n hn)
theorem open_rowsW {t e : TypeId} {fs : Array Field} {fuel : Nat} {a : Option Addr} {len cap : Nat} {x : DataW H × List MemPlace} {Q : List Value → Prop} (ht : P.underlying t = some (.slice e)) (he : P.underlying e = some (.struct fs))
    (hone : oneCellFields P fs = true) (hC : P.cellsOf e = fs.size) (hsz : (x.1.weights P t).all (· ≤ reachBytes) = true) (hQ : FieldsSayW enc P w base spare held fs Q) (h : DataW.trod enc P w base spare held fuel t [.slice a len cap] = some x) : IsRows fs.size Q w a len ∧ len ≤ cap := by
  rcases open_slice ht h with ⟨h0, _⟩ | ⟨b, l, c, m, n, D, Pl, hcs, hb, hl, hm, hmm, hx, hi'⟩
  · simp only [List.cons.injEq, Value.slice.injEq, and_true] at h0
    exact ⟨fun i hi => by omega, by omega⟩
  · simp only [List.cons.injEq, Value.slice.injEq, and_true] at hcs
    obtain ⟨rfl, rfl, rfl⟩ := hcs
    refine ⟨fun i hi => ?_, hl⟩
    obtain ⟨cs, hc, htr⟩ := hi' i (by rw [hmm]; split <;> omega)
    have hwD : ((D i).weights P e).all (· ≤ reachBytes) = true := by
      rw [List.all_eq_true] at hsz ⊢
      intro q hq
      refine hsz q ?_
      rw [hx]
      simp only [DataW.weights, ht, List.mem_cons, List.mem_append]
      exact .inr (.inl (weightsAll_mem (List.mem_map.2 ⟨i, List.mem_range.2 hi, rfl⟩) q hq))
    obtain ⟨ys, n', _, hxe, hlen, hyl, hf⟩ := DataW.trod_struct he htr
    obtain ⟨_, hcl, hat⟩ := World.cells?_some hc
    rw [hC] at hcl hat
    refine ⟨b, cs, rfl, hcl, hQ n' cs hcl ?_, ?_⟩
    · intro j f v hj hv
      obtain ⟨ho, hk⟩ := hone_of hone j f hj
      have hjl : j < fs.size := (Array.getElem?_eq_some_iff.1 hj).1
      have h1 := hf j f hj
      have h2 : (cs.drop j).take 1 = [v] := by
        obtain ⟨hjl', hv'⟩ := List.getElem?_eq_some_iff.1 hv
        rw [List.drop_eq_getElem_cons hjl', hv']; rfl
      rw [ho, hk, h2, List.getElem?_eq_getElem (show j < ys.length by omega)] at h1
      refine ⟨_, h1, ?_⟩
      have hDe : D i = .agg (ys.map (·.1)) := by
        have := congrArg Prod.fst hxe
        simpa using this
      rw [hDe] at hwD
      simp only [DataW.weights, he] at hwD
      rw [List.all_eq_true] at hwD ⊢
      intro q hq
      refine hwD q (DataW.weights_mem_each (j := j) (t := f.type) (d := (ys[j]'(by omega)).1) ?_ ?_ q hq)
      · rw [List.getElem?_map, Array.getElem?_toList, hj]; rfl
      · rw [List.getElem?_map, List.getElem?_eq_getElem (show j < ys.length by omega)]; rfl
    · intro j v hv
      have hjl := (List.getElem?_eq_some_iff.1 hv).1
      rw [← hv, ← hat j (by omega), add_add]
/-- A slice of one-celled elements: what an element says, its cell says. -/
theorem open_cells {t e : TypeId} {fuel : Nat} {a : Option Addr} {len cap : Nat} {x : DataW H × List MemPlace} {Q : List Value → Prop} (ht : P.underlying t = some (.slice e)) (hC : P.cellsOf e = 1)
    (hQ : ∀ n v y, DataW.trod enc P w base spare held n e [v] = some y → Q [v]) (h : DataW.trod enc P w base spare held fuel t [.slice a len cap] = some x) : IsRows 1 Q w a len := by
  intro i hi
  rcases open_slice ht h with ⟨h0, _⟩ | ⟨b, l, c, m, n, D, Pl, hcs, hb, hl, hm, hmm, hx, hi'⟩
  · simp only [List.cons.injEq, Value.slice.injEq] at h0; omega
  · simp only [List.cons.injEq, Value.slice.injEq, and_true] at hcs
    obtain ⟨rfl, rfl, rfl⟩ := hcs
    obtain ⟨cs, hc, htr⟩ := hi' i (by rw [hmm]; split <;> omega)
    obtain ⟨_, hcl, hat⟩ := World.cells?_some hc
    rw [hC] at hcl hat
    obtain ⟨v, rfl⟩ : ∃ v, cs = [v] := List.length_eq_one_iff.1 hcl
    refine ⟨b, [v], rfl, rfl, hQ _ v _ htr, ?_⟩
    intro j u hu
    have hjl := (List.getElem?_eq_some_iff.1 hu).1
    rw [← hu, ← hat j hjl, add_add]
end
end Vc

/- The rows that came in, as a list; where the text came in cut. No condition. -/
set_option linter.unusedVariables false
namespace Go.Proofs.Ytoagdpjickippaa
open Go Vc Go.Proofs Go.RowKit

theorem rows_of {W : World} {a : Option Addr} : ∀ (n : Nat), IsRows 3 (fun vs => ∃ x0 x1 x2, vs = [.string x0, .int .i64 x1, .int .u32 x2] ∧ x0.size ≤ reachBytes ∧ (Lit.int .i64 x1).wf = true ∧ (Lit.int .u32 x2).wf = true) W a n → ∃ xs : List PRow, xs.length = n ∧ ReadsK encP 3 W a xs ∧ (∀ x ∈ xs, x.1.size ≤ reachBytes) ∧ ∀ x ∈ xs, Fits x
  | 0, _ => ⟨[], rfl, .nil _ _, fun x hx => by simp at hx, fun x hx => by simp at hx⟩
  | n + 1, h => by
    obtain ⟨xs, hE, hR, hB, hF⟩ := rows_of n fun i hi => h i (by omega)
    obtain ⟨ad, vs, had, hl, ⟨x0, x1, x2, rfl, h1, h2, h3⟩, hc⟩ := h n (by omega)
    have hf : Fits (x0, x1, x2) := by
      have := wf_u32 h3
      exact ⟨this.1, by show x2 < _; omega⟩
    refine ⟨xs ++ [(x0, x1, x2)], by rw [List.length_append, hE]; rfl, fun i x hx => ?_, fun x hx => ?_, fun x hx => ?_⟩
    · by_cases hi : i < xs.length
      · rw [List.getElem?_append_left hi] at hx
        exact hR i x hx
      · rw [List.getElem?_append_right (by omega)] at hx
        have hi0 : i - xs.length = 0 := by
          by_cases h : i - xs.length = 0
          · exact h
          · rw [List.getElem?_eq_none (by simp; omega)] at hx; cases hx
        rw [hi0] at hx
        simp only [List.getElem?_cons_zero, Option.some.injEq] at hx
        subst hx
        refine ⟨ad, had, fun j v hv => ?_⟩
        have := hc j v hv
        rw [add_add, show i = n by omega]
        exact this
    · rcases List.mem_append.1 hx with hx | hx
      · exact hB x hx
      · simp only [List.mem_cons, List.mem_nil_iff, or_false] at hx
        subst hx; exact h1
    · rcases List.mem_append.1 hx with hx | hx
      · exact hF x hx
      · simp only [List.mem_cons, List.mem_nil_iff, or_false] at hx
        subst hx; exact hf
end Go.Proofs.Ytoagdpjickippaa

/- The statement PackidxBuildsSaid of this seat: for every input the law returns true and its arguments read as they did. No condition. -/
namespace Go.Proofs.Ytoagdpjickippaa.packidxBuilds
open Go.ChangeShapes Go.WideShapes Go.ChangeAt Go.RowKit
open Go.ChangeMaps (open_string shut_string)
set_option linter.unusedVariables false

theorem own : ownKnob Try.prog.godebug = none := by kernel_rfl
theorem laidOut : laidOutB Try.prog = true := by kernel_rfl

set_option maxRecDepth 100000 in
theorem lifted (os : Os) (started : os.Started) (H : Type) (enc : TypeId × Value → H) :
    ReturnsInHanded {} Try.checked os 5 .any (Rows.packidxBuildsSpec.pre6 enc Try.prog Try.f5 Rows.packidxBuildsRow.domain false) (Rows.packidxBuildsSpec.post enc Try.prog Try.f5 false true false false) := by
  refine returnsInHanded_of_change_sized (C := Try.checked) own started (by kernel_rfl) Try.func5
    (ChangeSpec.witness6 (enc := enc) (C := Try.checked) false ⟨#[], #[.slice none 0 0, .string ByteArray.empty, .int .i64 0, .string ByteArray.empty], []⟩ 8 (by kernel_rfl) (by kernel_rfl) (by kernel_rfl) (by kernel_rfl)) ?_
  intro W base args ds gs before hval0 hW hcnd hsz _
  have hval : ∀ (j : Nat) t v, Try.f5.params[j]? = some t → args[j]? = some v → Value.okWide Try.prog W .any base t v := hval0
  have hW' := hW
  obtain ⟨p, q, hA0, hV, rfl, hfz, hnd⟩ := hW
  have hA : DataW.TrodAll enc Try.prog W 0 (fun _ => true) true Try.f5.params.toList args.toList ds p := hA0
  rw [Try.params5] at hA hval
  obtain ⟨v0, vs0, d0, ds0, p0, q0, hargs, rfl, rfl, h0, r0⟩ := trodAll_cons hA
  obtain ⟨v1, vs1, d1, ds1, p1, q1, rfl, rfl, rfl, h1, r1⟩ := trodAll_cons r0
  obtain ⟨v2, vs2, d2, ds2, p2, q2, rfl, rfl, rfl, h2, r2⟩ := trodAll_cons r1
  obtain ⟨v3, vs3, d3, ds3, p3, q3, rfl, rfl, rfl, h3, r3⟩ := trodAll_cons r2
  obtain ⟨rfl, rfl, rfl⟩ := trodAll_nil r3
  obtain rfl : args = #[v0, v1, v2, v3] := by cases args; simp_all
  obtain ⟨rfl, rfl⟩ := trodVars_none hV
  obtain ⟨a0, len0, cap0, rfl⟩ := okWide_slice Try.underlying22 (hval 0 22 v0 rfl rfl)
  have k0 := h0
  have lt0 : ∀ x ∈ p0, x.block < W.heap.size := by obtain ⟨m, hm⟩ := k0; exact DataW.trod_lt m _ _ _ hm
  obtain ⟨w0, c0⟩ : Vc.IsRows 3 (fun vs => ∃ x0 x1 x2, vs = [.string x0, .int .i64 x1, .int .u32 x2] ∧ x0.size ≤ reachBytes ∧ (Lit.int .i64 x1).wf = true ∧ (Lit.int .u32 x2).wf = true) W a0 len0 ∧ len0 ≤ cap0 := by
    obtain ⟨fuel, hf⟩ := h0
    refine Vc.open_rowsW Try.underlying22 Try.underlying32 (by kernel_rfl) (by kernel_rfl) (List.all_eq_true.2 fun q hq => List.all_eq_true.1 hsz q (DataW.weights_mem_each (j := 0) (t := 22) rfl rfl q hq)) ?_ hf
    intro n cs hcs hall
    match cs, hcs with
    | [c0, c1, c2], _ =>
      obtain ⟨y0, g0, k0⟩ := hall 0 _ c0 rfl rfl
      obtain ⟨x0, e0, d0, f0⟩ := DataW.trod_string Try.underlying9 g0
      obtain rfl := (List.cons.inj e0).1
      have f0 : x0.size ≤ reachBytes := by simpa [d0, DataW.weights] using k0
      obtain ⟨y1, g1, k1⟩ := hall 1 _ c1 rfl rfl
      obtain ⟨x1, e1, d1, f1⟩ := DataW.trod_int Try.underlying3 g1
      obtain rfl := (List.cons.inj e1).1
      obtain ⟨y2, g2, k2⟩ := hall 2 _ c2 rfl rfl
      obtain ⟨x2, e2, d2, f2⟩ := DataW.trod_int Try.underlying30 g2
      obtain rfl := (List.cons.inj e2).1
      exact ⟨x0, x1, x2, rfl, f0, f1, f2⟩
  obtain ⟨a1, rfl, rfl, rfl, w1⟩ := open_string Try.underlying9 (hval 1 9 v1 rfl rfl) h1
  have b1 : a1.size ≤ reachBytes := by have := sized_string hsz (j := 1) (t := 9) rfl rfl; simpa using this
  obtain ⟨a2, rfl, rfl, rfl, w2⟩ := open_int Try.underlying3 (hval 2 3 v2 rfl rfl) h2
  obtain ⟨a3, rfl, rfl, rfl, w3⟩ := open_string Try.underlying9 (hval 3 9 v3 rfl rfl) h3
  have b3 : a3.size ≤ reachBytes := by have := sized_string hsz (j := 3) (t := 9) rfl rfl; simpa using this
  clear hA0 hval0
  refine ((rows_of len0 w0).elim fun xs h => builds_walk h.2.1 h.1 (fun x hx => Nat.le_trans (h.2.2.1 x hx) (by decide)) h.2.2.2 a1 (Nat.le_trans b1 (by decide)) a2 a3).mono fun e W' ⟨he, bel⟩ => ?_
  subst he
  exact ⟨_, rfl, _, _, _, [], _, [], hW', trodAll_mk1 (shut_bool Try.underlying4 _), (trodAll_cons_mk (Below.trod laidOut (by kernel_rfl) (of_decide_eq_true (by kernel_rfl)) k0 bel lt0) (trodAll_cons_mk (shut_string Try.underlying9 w1) (trodAll_cons_mk (shut_int Try.underlying3 w2) (trodAll_cons_mk (shut_string Try.underlying9 w3) trodAll_mk0)))), rfl, bel.frame _, fun h => by cases h⟩

theorem over : Rows.packidxBuildsRow.holds Try.pinned (OpenSpec.ofChange Rows.packidxBuildsSpec) :=
  OpenClaim.holds_of_wide 5 Try.f5 rfl rfl rfl rfl rfl rfl rfl ⟨rfl, rfl, rfl, rfl, rfl⟩ rfl rfl rfl rfl rfl (by kernel_rfl) Try.func5 (by kernel_rfl)
    (of_decide_eq_true (by kernel_rfl)) (by unfold Func.isWrapper; first | (rw [if_pos (by decide +kernel)]; kernel_rfl) | (rw [if_neg (by decide +kernel)]; exact ⟨rfl, rfl⟩))
    (fun os started H enc _ => lifted os started H enc)

/-- The statement. -/
theorem proved : Rows.PackidxBuildsSaid := over
#print axioms proved
end Go.Proofs.Ytoagdpjickippaa.packidxBuilds
