/- The statements on paths. Conditions: as named. -/
import Derived.Test.YtmhlmdnhpfhoeaaDoorModJ
import Derived.Test.YtmhlmdnhpfhoeaaDoorModK
import Derived.Test.YtmhlmdnhpfhoeaaDoorModM
import Derived.Test.YtmhlmdnhpfhoeaaDoorLaw22
set_option linter.unusedVariables false
namespace Go.Proofs.YtmhlmdnhpfhoeaaDoor
open Go Vc Go.Proofs

theorem parents_walk (a0 : ByteArray) (b0 : a0.size ≤ 140737488355328) (W : World) : Calls Tryd.prog F_cartularylaw22_ModfileParents #[.string a0] W fun e w' => e = .returned (.bool true) ∧ RowKit.Below W.heap.size W w' := by
  refine vc_cartularylaw22_ModfileParents_ok (R := fun v w' => v = .bool true ∧ Fr (fun _ => False) W w') ?_ (fun v w' h => ⟨by rw [h.1], (h.2.mono fun _ _ h => h.elim : Fr (fun k => W.heap.size ≤ k) W w').below (Nat.le_refl _)⟩)
  refine ⟨fun w' => Fr (fun _ => False) W w', (path_spec a0 W).mono ?_, ?_⟩
  · rintro e w3 ⟨rfl, hf3⟩
    refine ⟨_, rfl, fun hp => ?_, fun _ => hf3⟩
    have hs := (path_facts hp).1
    refine ⟨fun z w' => ∃ k : Nat, z = k ∧ k ≤ a0.size ∧ Fr (fun _ => False) W w', fun z _ => a0.size - z.toNat, ⟨0, rfl, Nat.zero_le _, hf3⟩, ?_⟩
    rintro z w8 ⟨k, rfl, hk, hf8⟩
    have e1 : IntKind.i64.wrap ((k : Int) + 1) = ((k + 1 : Nat) : Int) := by rw [wrap_i64 (by omega) (by omega)]; omega
    rw [e1, byteAt_nat]
    refine ⟨fun hlt => ?_, fun hge => ?_⟩
    · have hlt := of_decide_eq_true hlt
      refine ⟨⟨by omega, by omega⟩, fun h47 => ⟨⟨by omega, by omega⟩, ?_⟩, fun h47 => ⟨⟨k + 1, rfl, by omega, hf8⟩, by dsimp only; omega⟩⟩
      have h47 : byt a0 k = 47 := by have := eq_of_beq h47; omega
      rw [Int.toNat_natCast]
      refine (path_spec _ w8).mono ?_
      rintro e w10 ⟨rfl, hf10⟩
      rw [path_front hp (by omega) h47]
      exact ⟨true, rfl, fun h => (by cases h), fun _ => ⟨⟨k + 1, rfl, by omega, hf8.trans' hf10⟩, by dsimp only; omega⟩⟩
    · refine (filePath_spec a0 b0 w8).mono ?_
      rintro e w13 ⟨rfl, hf13⟩
      rw [path_file hp]
      exact ⟨true, rfl, fun h => (by cases h), fun _ => hf8.trans' hf13⟩
  · intro w15 hf15
    refine (awake22_spec w15).mono ?_
    rintro e w17 ⟨rfl, hf17⟩
    refine ⟨true, rfl, fun _ => ?_, fun h => by cases h⟩
    refine (filePath_spec a0 b0 w17).mono ?_
    rintro e w20 ⟨rfl, hf20⟩
    have hF := (hf15.trans' hf17).trans' hf20
    refine ⟨_, rfl, fun h => ⟨rfl, hF⟩, fun h => ?_⟩
    have h : fileB a0 = true := by simpa using h
    obtain ⟨h0, h1, h2⟩ := file_ends h
    have e2 : IntKind.i64.wrap ((a0.size : Int) - 1) = ((a0.size - 1 : Nat) : Int) := by rw [wrap_i64 (by omega) (by omega)]; omega
    rw [e2, show (0 : Int) = ((0 : Nat) : Int) from rfl, byteAt_nat, byteAt_nat]
    refine ⟨fun _ => ⟨⟨by omega, by omega⟩, fun _ => ⟨⟨by omega, by omega⟩, ?_, hF⟩, fun hh => ?_⟩, fun hh => ?_⟩
    · congr 1
      simp; omega
    · exfalso
      have : byt a0 0 = 47 := by simp at hh; omega
      exact h1 this
    · have := of_decide_eq_false hh
      omega
theorem paths_walk (a0 : ByteArray) (b0 : a0.size ≤ 140737488355328) (W : World) : Calls Tryd.prog F_cartularylaw22_ModfilePaths #[.string a0] W fun e w' => e = .returned (.bool true) ∧ RowKit.Below W.heap.size W w' := by
  refine vc_cartularylaw22_ModfilePaths_ok (R := fun v w' => v = .bool true ∧ Fr (fun _ => False) W w') ?_ (fun v w' h => ⟨by rw [h.1], (h.2.mono fun _ _ h => h.elim : Fr (fun k => W.heap.size ≤ k) W w').below (Nat.le_refl _)⟩)
  have hplain : ∀ w : World, Calls Tryd.prog F_modfile_Plain #[.string a0] w fun e w' => e = .returned (.string (plainS a0)) ∧ w' = w := fun w => by
    refine vc_modfile_Plain_ok (R := fun v w' => v = .string (plainS a0) ∧ w' = w) ?_ (fun v w' h => ⟨by rw [h.1], h.2⟩)
    have h7 : ByteArray.size ⟨⟨[109, 111, 100, 117, 108, 101, 32]⟩⟩ = 7 := rfl
    have h1 : ByteArray.size ⟨⟨[10]⟩⟩ = 1 := rfl
    exact ⟨by omega, by rw [ByteArray.size_append]; omega, rfl, rfl⟩
  refine (rpath_spec a0 W).mono ?_
  rintro e w2 ⟨rfl, hf2⟩
  refine ⟨_, rfl, (awake22_spec w2).mono ?_⟩
  rintro e w5 ⟨rfl, hf5⟩
  refine ⟨true, rfl, fun h => (by cases h), fun _ => (path_spec a0 w5).mono ?_⟩
  rintro e w8 ⟨rfl, hf8⟩
  refine ⟨_, rfl, fun h => by simp at h, fun _ => (filePath_spec a0 b0 w8).mono ?_⟩
  rintro e w11 ⟨rfl, hf11⟩
  refine ⟨_, rfl, (rfile_spec a0 b0 w11).mono ?_⟩
  rintro e w14 ⟨rfl, hf14⟩
  have hF := (((hf2.trans' hf5).trans' hf8).trans' hf11).trans' hf14
  refine ⟨_, rfl, fun h => by simp at h, fun _ => (hplain w14).mono ?_⟩
  rintro e w17 ⟨rfl, rfl⟩
  have h7 : ByteArray.size ⟨⟨[109, 111, 100, 117, 108, 101, 32]⟩⟩ = 7 := rfl
  have h1 : ByteArray.size ⟨⟨[10]⟩⟩ = 1 := rfl
  refine ⟨_, rfl, by omega, by rw [ByteArray.size_append]; omega, ?_⟩
  rw [bs_eq]
  refine ⟨fun h => ?_, fun _ => ⟨fun hn => ⟨rfl, hF⟩, fun hy => ?_⟩⟩
  · exfalso
    rw [Bool.not_eq_true'] at h
    exact absurd rfl (of_decide_eq_false h)
  have hy : pathB a0 = true := by simpa using hy
  refine (hplain w17).mono ?_
  rintro e w20 ⟨rfl, rfl⟩
  have hsz : (plainS a0).size ≤ 65536 := by
    have := (path_facts hy).1
    unfold plainS
    rw [ByteArray.size_append, ByteArray.size_append]
    have h7' : (⟨#[109, 111, 100, 117, 108, 101, 32]⟩ : ByteArray).size = 7 := rfl
    have h1' : (⟨#[10]⟩ : ByteArray).size = 1 := rfl
    omega
  refine ⟨_, rfl, (module_spec hsz w20).mono ?_⟩
  rintro e w23 ⟨hf23, res, hP, rfl⟩
  have := hP.det (plain_says hy)
  subst this
  rw [plain_mod hy]
  refine ⟨_, _, _, rfl, ?_⟩
  rw [bs_eq]
  exact ⟨fun _ => ⟨fun _ => ⟨rfl, hF.trans' hf23⟩, fun h => by cases h⟩, fun h => absurd rfl (of_decide_eq_false h)⟩
end Go.Proofs.YtmhlmdnhpfhoeaaDoor
