/- The law's awake, and the law of names. Conditions: as named. -/
import Derived.Test.YtmhlmdnhpfhoeaaDoorRefQ
import Derived.Test.YtmhlmdnhpfhoeaaDoorSnapP
import Derived.Test.YtmhlmdnhpfhoeaaDoorLaw16A
set_option linter.unusedVariables false
namespace Go.Proofs.YtmhlmdnhpfhoeaaDoor
open Go Vc HexM Go.Proofs

def rId : ByteArray := ⟨#[52, 98, 56, 50, 53, 100, 99, 54, 52, 50, 99, 98, 54, 101, 98, 57, 97, 48, 54, 48, 101, 53, 52, 98, 102, 56, 100, 54, 57, 50, 56, 56, 102, 98, 101, 101, 52, 57, 48, 52]⟩
def rMain : ByteArray := ⟨#[114, 101, 102, 115, 47, 104, 101, 97, 100, 115, 47, 109, 97, 105, 110]⟩
def rwH : FileE := ⟨sHEAD, ⟨#[114, 101, 102, 58, 32, 114, 101, 102, 115, 47, 104, 101, 97, 100, 115, 47, 109, 97, 105, 110, 10]⟩⟩
def rwP : FileE := ⟨sPacked, ⟨#[35, 32, 120, 10]⟩ ++ rId ++ ⟨#[32, 114, 101, 102, 115, 47, 104, 101, 97, 100, 115, 47, 109, 97, 105, 110, 10]⟩⟩
theorem rw_strict : [rwH, rwP].Pairwise fun x y => x.path.data.toList < y.path.data.toList := by
  refine List.pairwise_cons.2 ⟨fun y hy => ?_, List.pairwise_singleton _ _⟩
  simp only [List.mem_cons, List.mem_nil_iff, or_false] at hy
  subst hy
  decide
theorem rw_clean : (cleanB rwH.path && cleanB rwP.path) = true := by decide +kernel
theorem rw_under : ((underE [rwH, rwP] (rwH.path ++ ⟨#[47]⟩)).length == 0 && (underE [rwH, rwP] (rwP.path ++ ⟨#[47]⟩)).length == 0) = true := by decide +kernel
theorem rw_ok : NewOK [rwH, rwP] := by
  have hc := rw_clean
  have hu := rw_under
  rw [Bool.and_eq_true] at hc hu
  refine ⟨fun i x hx => ?_, fun x hx => ?_⟩
  · match i, hx with
    | 0, hx => cases hx; exact ⟨hc.1, fun y h => by omega⟩
    | 1, hx =>
      cases hx
      refine ⟨hc.2, fun y _ hy => ?_⟩
      cases hy
      intro e
      have := congrArg ByteArray.size e
      revert this; decide
  · simp only [List.mem_cons, List.mem_nil_iff, or_false] at hx
    rcases hx with rfl | rfl
    · exact List.length_eq_zero_iff.1 (by simpa using hu.1)
    · exact List.length_eq_zero_iff.1 (by simpa using hu.2)
theorem rw_open : openE [rwH, rwP] = .ok [(rMain, rId, ⟨#[]⟩)] := by kernel_rfl
theorem rw_look : lookE [rwH, rwP] [(rMain, rId, ⟨#[]⟩)] sHEAD = (rId, 0) := by kernel_rfl
theorem awake16_spec {w : World} (hml : MaxL w) : Calls Tryd.prog F_cartularylaw16_awake #[] w fun e w' => e = .returned (.bool true) ∧ Fr (fun _ => False) w w' := by
  refine vc_cartularylaw16_awake_ok (R := fun v w' => v = .bool true ∧ Fr (fun _ => False) w w') ?_ (fun v w' h => ⟨by rw [h.1], h.2⟩)
  refine ⟨by decide, by decide, fun w1 h1 => ?_⟩
  have hf1 : Fr (fun _ => False) w w1 := by rw [h1]; exact .alloc _ _ _
  have hr : ReadsK encF 2 w1 (some ⟨w.heap.size, 0, none⟩) [rwH, rwP] := reads_blkF (by rw [h1]; exact alloc_new _ _) rfl
  clear h1
  have hsz : ∀ x ∈ [rwH, rwP], x.path.size ≤ 140737488355328 := fun x hx => by
    simp only [List.mem_cons, List.mem_nil_iff, or_false] at hx
    rcases hx with rfl | rfl <;> decide
  have hdz : ∀ x ∈ [rwH, rwP], x.data.size ≤ 140737488355328 := fun x hx => by
    simp only [List.mem_cons, List.mem_nil_iff, or_false] at hx
    rcases hx with rfl | rfl <;> decide
  refine (new_spec hr rfl (by decide) (by decide) hsz nilSort).mono ?_
  rintro e w3 ⟨v, rfl, hf3, hR⟩
  rcases hR with ⟨_, h⟩ | ⟨_, _, ys, hp, hris, h⟩
  · exfalso
    rcases h with h | h <;> revert h <;> decide
  have hy := perm_eq hp.symm rw_strict hris
  subst hy
  rcases h with ⟨hn, _⟩ | ⟨hok, b, l, rfl, hb, hS⟩
  · exact absurd rw_ok hn
  have hf3' := hf1.trans' hf3
  refine ⟨_, _, rfl, fun h => absurd h (by decide), fun _ => ⟨fun h => (by cases h), fun _ => (open_spec (hml.keep hf3') hS hris hdz).mono ?_⟩⟩
  rw [rw_open]
  rintro e w7 ⟨hf7, rb, mb, rfl, _, _, hI⟩
  refine ⟨_, _, rfl, fun h => absurd h (by decide), fun _ => ⟨fun h => (by cases h), fun _ => (lookup_spec (hml.keep (hf3'.trans' hf7)) hI (hS.keep hf7) hris hdz sHEAD (by decide)).mono ?_⟩⟩
  rw [rw_look]
  rintro e w11 ⟨rfl, hf11⟩
  refine ⟨_, _, rfl, fun _ => ⟨?_, (hf3'.trans' hf7).trans' hf11⟩, fun h => absurd h (by decide)⟩
  rw [bs_eq]
  exact congrArg Value.bool (decide_eq_true rfl)
theorem names_walk (a0 a1 : ByteArray) (b0 : a0.size ≤ 140737488351232) (b1 : a1.size ≤ 140737488351232) {W : World} (hml : MaxL W) : Calls Tryd.prog F_cartularylaw16_RefsNames #[.string a0, .string a1] W fun e w' => e = .returned (.bool true) ∧ RowKit.Below W.heap.size W w' := by
  refine vc_cartularylaw16_RefsNames_ok (R := fun v w' => v = .bool true ∧ Fr (fun _ => False) W w') ?_ (fun v w' h => ⟨by rw [h.1], (h.2.mono fun _ _ h => h.elim : Fr (fun k => W.heap.size ≤ k) W w').below (Nat.le_refl _)⟩)
  unfold vc_cartularylaw16_RefsNames
  rw [show (ByteArray.mk (Array.mk [114, 101, 102, 115, 47])) = sRefs from rfl, show (ByteArray.mk (Array.mk [47])) = ⟨#[47]⟩ from rfl, show (ByteArray.mk (Array.mk [46, 46])) = ⟨#[46, 46]⟩ from rfl, show (ByteArray.mk (Array.mk [46, 108, 111, 99, 107])) = ⟨#[46, 108, 111, 99, 107]⟩ from rfl]
  have hs5 : sRefs.size = 5 := rfl
  have sA : (sRefs ++ a0).size = 5 + a0.size := by rw [ByteArray.size_append, hs5]
  have sB : (sRefs ++ a1).size = 5 + a1.size := by rw [ByteArray.size_append, hs5]
  refine ⟨fun bb w' => Fr (fun _ => False) W w' ∧ (bb = true ∨ (bb = false ∧ nameB (sRefs ++ a0) = true ∧ nameB (sRefs ++ a1) = true)), ⟨by omega, (name_spec (sRefs ++ a0) (by omega) hml).mono ?_⟩, ?_⟩
  · rintro e w3 ⟨rfl, hf3⟩
    refine ⟨_, rfl, fun h => ⟨hf3, .inl rfl⟩, fun h => ⟨by omega, (name_spec (sRefs ++ a1) (by omega) (hml.keep hf3)).mono ?_⟩⟩
    rintro e w6 ⟨rfl, hf6⟩
    refine ⟨_, rfl, hf3.trans' hf6, ?_⟩
    cases hb : nameB (sRefs ++ a1) with
    | true => exact .inr ⟨rfl, by simpa using h, rfl⟩
    | false => exact .inl rfl
  rintro bb w9 ⟨hf9, hbb⟩
  refine ⟨fun _ => ?_, fun hF => ?_⟩
  · refine (awake16_spec (hml.keep hf9)).mono ?_
    rintro e w11 ⟨rfl, hf11⟩
    refine ⟨true, rfl, fun _ => ⟨by omega, (rname_spec (sRefs ++ a0) (by omega) w11).mono ?_⟩, fun h => by cases h⟩
    rintro e w14 ⟨rfl, hf14⟩
    have hF14 := (hf9.trans' hf11).trans' hf14
    refine ⟨_, rfl, by omega, (name_spec (sRefs ++ a0) (by omega) (hml.keep hF14)).mono ?_⟩
    rintro e w17 ⟨rfl, hf17⟩
    exact ⟨_, rfl, by rw [beq_self_eq_true], hF14.trans' hf17⟩
  · obtain ⟨_, hA, hB⟩ := hbb.resolve_left (fun e => by rw [e] at hF; cases hF)
    obtain ⟨j1, j2, j3⟩ := name_join hA hB
    have hA' := hA
    have hB' := hB
    rw [name_refs, Bool.and_eq_true] at hA' hB'
    have z0 := of_decide_eq_true hA'.1
    have z1 := of_decide_eq_true hB'.1
    refine (awake16_spec (hml.keep hf9)).mono ?_
    rintro e w20 ⟨rfl, hf20⟩
    have hF20 := hf9.trans' hf20
    have q1 : ByteArray.size ⟨#[47]⟩ = 1 := rfl
    have q2 : ByteArray.size ⟨#[46, 46]⟩ = 2 := rfl
    have q3 : ByteArray.size ⟨#[46, 108, 111, 99, 107]⟩ = 5 := rfl
    have sA1 : (sRefs ++ a0 ++ ⟨#[47]⟩).size = 6 + a0.size := by rw [ByteArray.size_append, sA]; show 5 + a0.size + 1 = _; omega
    have sA2 : (sRefs ++ a0 ++ ⟨#[46, 46]⟩).size = 7 + a0.size := by rw [ByteArray.size_append, sA]; show 5 + a0.size + 2 = _; omega
    have sA3 : (sRefs ++ a0 ++ ⟨#[46, 108, 111, 99, 107]⟩).size = 10 + a0.size := by rw [ByteArray.size_append, sA]; show 5 + a0.size + 5 = _; omega
    have sC : (sRefs ++ a0 ++ ⟨#[47]⟩ ++ a1).size = 6 + a0.size + a1.size := by rw [ByteArray.size_append, sA1]
    have e1 : IntKind.i64.wrap (IntKind.i64.wrap ((a0.size : Int) + (a1.size : Int)) + 6) = ((a0.size + a1.size + 6 : Nat) : Int) := by
      rw [wrap_i64 (x := (a0.size : Int) + (a1.size : Int)) (by omega) (by omega), wrap_i64 (by omega) (by omega)]; omega
    rw [e1]
    have hsC : (sRefs ++ a0 ++ ⟨#[47]⟩ ++ a1).size ≤ 140737488355328 := by rw [sC]; omega
    have hsA2 : (sRefs ++ a0 ++ ⟨#[46, 46]⟩).size ≤ 140737488355328 := by rw [sA2]; omega
    have hsA3 : (sRefs ++ a0 ++ ⟨#[46, 108, 111, 99, 107]⟩).size ≤ 140737488355328 := by rw [sA3]; omega
    refine ⟨true, rfl, fun _ => ⟨by omega, ?_, ?_, ?_⟩, fun h => by cases h⟩
    · rw [q1, sA]; omega
    · rw [sA1]; omega
    refine (name_spec _ hsC (hml.keep hF20)).mono ?_
    rintro e w23 ⟨rfl, hf23⟩
    have hF23 := hF20.trans' hf23
    have hde : decide (((a0.size + a1.size + 6 : Nat) : Int) ≤ 200) = decide (a0.size + a1.size + 6 ≤ 200) := decide_eq_decide.2 (by omega)
    rw [j1, hde]
    refine ⟨_, rfl, fun _ => ⟨by omega, ?_, (name_spec _ hsA2 (hml.keep hF23)).mono ?_⟩, fun h => by rw [beq_self_eq_true] at h; cases h⟩
    · rw [q2, sA]; omega
    rintro e w26 ⟨rfl, hf26⟩
    have hF26 := hF23.trans' hf26
    rw [j2]
    refine ⟨false, rfl, fun _ => ⟨by omega, ?_, (name_spec _ hsA3 (hml.keep hF26)).mono ?_⟩, fun h => by cases h⟩
    · rw [q3, sA]; omega
    rintro e w29 ⟨rfl, hf29⟩
    rw [j3]
    exact ⟨false, rfl, rfl, hF26.trans' hf29⟩
end Go.Proofs.YtmhlmdnhpfhoeaaDoor
