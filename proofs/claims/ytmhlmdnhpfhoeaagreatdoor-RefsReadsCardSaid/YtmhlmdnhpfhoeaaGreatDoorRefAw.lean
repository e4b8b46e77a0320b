/- The law's awake: answers that the document fixes. Conditions: as named. -/
import Derived.Test.YtmhlmdnhpfhoeaaGreatDoorRefPQ
import Derived.Test.YtmhlmdnhpfhoeaaGreatDoorSnapP
import Derived.Test.YtmhlmdnhpfhoeaaGreatDoorLaw16Z
set_option linter.unusedVariables false
namespace Go.Proofs.YtmhlmdnhpfhoeaaGreatDoor
open Go Vc HexM Go.Proofs

def rId : ByteArray := ⟨#[52, 98, 56, 50, 53, 100, 99, 54, 52, 50, 99, 98, 54, 101, 98, 57, 97, 48, 54, 48, 101, 53, 52, 98, 102, 56, 100, 54, 57, 50, 56, 56, 102, 98, 101, 101, 52, 57, 48, 52]⟩
def rMain : ByteArray := ⟨#[114, 101, 102, 115, 47, 104, 101, 97, 100, 115, 47, 109, 97, 105, 110]⟩
def rwH : FileE := ⟨sHEAD, ⟨#[114, 101, 102, 58, 32, 114, 101, 102, 115, 47, 104, 101, 97, 100, 115, 47, 109, 97, 105, 110, 10]⟩⟩
def rwP : FileE := ⟨sPacked, ⟨#[35, 32, 120, 10]⟩ ++ rId ++ ⟨#[32, 114, 101, 102, 115, 47, 104, 101, 97, 100, 115, 47, 109, 97, 105, 110, 10]⟩⟩
theorem rw_strict : [rwH, rwP].Pairwise fun x y => x.path.data.toList < y.path.data.toList := by
  refine List.pairwise_cons.2 ⟨fun y hy => ?_, List.pairwise_singleton _ _⟩
  simp only [List.mem_cons, List.mem_nil_iff, or_false] at hy
  subst hy
  decide
theorem rw_clean : (cleanB rwH.path && cleanB rwP.path) = true := by decide +kernel
theorem rw_under : ((underE [rwH, rwP] (rwH.path ++ ⟨#[47]⟩)).length == 0 && (underE [rwH, rwP] (rwP.path ++ ⟨#[47]⟩)).length == 0) = true := by decide +kernel
theorem rw_ok : NewOK [rwH, rwP] := by
  have hc := rw_clean
  have hu := rw_under
  rw [Bool.and_eq_true] at hc hu
  refine ⟨fun i x hx => ?_, fun x hx => ?_⟩
  · match i, hx with
    | 0, hx => cases hx; exact ⟨hc.1, fun y h => by omega⟩
    | 1, hx =>
      cases hx
      refine ⟨hc.2, fun y _ hy => ?_⟩
      cases hy
      intro e
      have := congrArg ByteArray.size e
      revert this; decide
  · simp only [List.mem_cons, List.mem_nil_iff, or_false] at hx
    rcases hx with rfl | rfl
    · exact List.length_eq_zero_iff.1 (by simpa using hu.1)
    · exact List.length_eq_zero_iff.1 (by simpa using hu.2)
theorem rw_open : openE [rwH, rwP] = .ok [(rMain, rId, ⟨#[]⟩)] := by kernel_rfl
theorem rw_look : lookE [rwH, rwP] [(rMain, rId, ⟨#[]⟩)] sHEAD = (rId, 0) := by kernel_rfl
theorem awake16_spec {w : World} (hml : MaxL w) : Calls Tryz.prog F_cartularylaw16_awake #[] w fun e w' => e = .returned (.bool true) ∧ Fr (fun _ => False) w w' := by
  refine vc_cartularylaw16_awake_ok (R := fun v w' => v = .bool true ∧ Fr (fun _ => False) w w') ?_ (fun v w' h => ⟨by rw [h.1], h.2⟩)
  refine ⟨by decide, by decide, fun w1 h1 => ?_⟩
  have hf1 : Fr (fun _ => False) w w1 := by rw [h1]; exact .alloc _ _ _
  have hr : ReadsK encF 2 w1 (some ⟨w.heap.size, 0, none⟩) [rwH, rwP] := reads_blkF (by rw [h1]; exact alloc_new _ _) rfl
  clear h1
  have hsz : ∀ x ∈ [rwH, rwP], x.path.size ≤ 140737488355328 := fun x hx => by
    simp only [List.mem_cons, List.mem_nil_iff, or_false] at hx
    rcases hx with rfl | rfl <;> decide
  have hdz : ∀ x ∈ [rwH, rwP], x.data.size ≤ 140737488355328 := fun x hx => by
    simp only [List.mem_cons, List.mem_nil_iff, or_false] at hx
    rcases hx with rfl | rfl <;> decide
  refine (new_spec hr rfl (by decide) (by decide) hsz nilSort).mono ?_
  rintro e w3 ⟨v, rfl, hf3, hR⟩
  rcases hR with ⟨_, h⟩ | ⟨_, _, ys, hp, hris, h⟩
  · exfalso
    rcases h with h | h <;> revert h <;> decide
  have hy := perm_eq hp.symm rw_strict hris
  subst hy
  rcases h with ⟨hn, _⟩ | ⟨hok, b, l, rfl, hb, hS⟩
  · exact absurd rw_ok hn
  have hf3' := hf1.trans' hf3
  refine ⟨_, _, rfl, fun h => absurd h (by decide), fun _ => ⟨fun h => (by cases h), fun _ => (open_spec (hml.keep hf3') hS hris hdz).mono ?_⟩⟩
  rw [rw_open]
  rintro e w7 ⟨hf7, rb, mb, rfl, _, _, hI⟩
  refine ⟨_, _, rfl, fun h => absurd h (by decide), fun _ => ⟨fun h => (by cases h), fun _ => (lookup_spec (hml.keep (hf3'.trans' hf7)) hI (hS.keep hf7) hris hdz sHEAD (by decide)).mono ?_⟩⟩
  rw [rw_look]
  rintro e w11 ⟨rfl, hf11⟩
  refine ⟨_, _, rfl, fun _ => ⟨?_, (hf3'.trans' hf7).trans' hf11⟩, fun h => absurd h (by decide)⟩
  rw [bs_eq]
  exact congrArg Value.bool (decide_eq_true rfl)
end Go.Proofs.YtmhlmdnhpfhoeaaGreatDoor
