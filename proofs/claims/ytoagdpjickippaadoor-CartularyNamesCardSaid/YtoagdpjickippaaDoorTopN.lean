/- The law CartularyNames walked. Condition: Itoa's table is as laid. -/
import Derived.Test.YtoagdpjickippaaDoorObjT
import Derived.Test.YtoagdpjickippaaDoorFewS
import Derived.Shelf.SlSortCmp.NoneTotal
import Derived.Test.YtoagdpjickippaaDoorTop10
set_option linter.unusedVariables false
namespace Go.Proofs.YtoagdpjickippaaDoor
open Go Vc HexM ShaM Go.Proofs

abbrev ObE := Int × ByteArray
def encO (x : ObE) : List Value := [.int .i64 x.1, .string x.2]
def pathS (k : Int) (d : ByteArray) : ByteArray := ⟨#[120, 47]⟩ ++ idS k d
def FOK (f : FileE) : Prop := ∃ k d, isKind k ∧ d.size ≤ 300 ∧ f = ⟨pathS k d, encS k d⟩
theorem idS_size (k : Int) (d : ByteArray) : (idS k d).size = 40 := by
  unfold idS
  rw [bs_mksize, hexL_length, dig1_len]
set_option maxRecDepth 100000 in
theorem id_blob : idS 3 ⟨#[]⟩ = ⟨#[101, 54, 57, 100, 101, 50, 57, 98, 98, 50, 100, 49, 100, 54, 52, 51, 52, 98, 56, 98, 50, 57, 97, 101, 55, 55, 53, 97, 100, 56, 99, 50, 101, 52, 56, 99, 53, 51, 57, 49]⟩ := by decide +kernel
theorem hex_mem : ∀ l : List UInt8, ∀ c ∈ hexL l, (48 ≤ c.toNat ∧ c.toNat ≤ 57) ∨ (97 ≤ c.toNat ∧ c.toNat ≤ 102) := fun l c hc => by
  have hd : ∀ q, q < 16 → (48 ≤ (UInt8.ofNat (hx q)).toNat ∧ (UInt8.ofNat (hx q)).toNat ≤ 57) ∨ (97 ≤ (UInt8.ofNat (hx q)).toNat ∧ (UInt8.ofNat (hx q)).toNat ≤ 102) := by decide
  obtain ⟨b, _, hb⟩ := List.mem_flatMap.1 hc
  have := UInt8.toNat_lt b
  simp only [List.mem_cons, List.mem_nil_iff, or_false] at hb
  rcases hb with rfl | rfl
  · exact hd _ (by omega)
  · exact hd _ (by omega)
theorem path_clean (k : Int) (d : ByteArray) : cleanB (pathS k d) = true := by
  have hid : (idS k d).data.toList = hexL (digest block1 start1 (encS k d).data.toList) := by unfold idS; rw [bs_mk]
  have hsz : (pathS k d).size = 42 := by
    unfold pathS
    rw [ByteArray.size_append, idS_size]; rfl
  have hm := hex_mem (digest block1 start1 (encS k d).data.toList)
  rw [← hid] at hm
  have hno : Lib.indexByte (idS k d).data.toList 47 = -1 := by
    rcases fnd_cases (idS k d) 47 with ⟨h, _⟩ | ⟨i, _, hi, hb, _⟩
    · exact h
    · have := hm _ (List.mem_of_getElem? (bs_get hi))
      rw [hb] at this
      exact absurd this (by decide)
  have hE : pathS k d = ⟨([120] ++ 47 :: (idS k d).data.toList).toArray⟩ := bs_ext (by unfold pathS; rw [bs_mk, bs_app]; rfl)
  have hc : cutS (pathS k d) 47 = (⟨#[120]⟩, idS k d, true) := by
    rw [hE, cut_at (by decide), bs_self]
  have hix : ¬ Lib.indexByte (pathS k d).data.toList 47 = -1 := fun h => by
    unfold cutS at hc
    rw [if_pos h] at hc
    cases hc
  have hparts : partsF 42 (pathS k d) = [⟨#[120]⟩, idS k d] := by
    rw [partsF, if_neg hix]
    unfold cutS at hc
    rw [if_neg hix] at hc
    simp only [Prod.mk.injEq, and_true] at hc
    rw [hc.1, hc.2, partsF_no hno]
  unfold cleanB
  rw [hsz, hparts]
  have hpr : printB (pathS k d) = true := by
    unfold printB
    refine decide_eq_true fun q hq => ?_
    have hcm := List.mem_of_getElem? (bs_get hq)
    have hl := byt_lt (pathS k d) q
    generalize byt (pathS k d) q = c at hcm hl
    rw [hE, bs_mk] at hcm
    have : UInt8.ofNat c = 120 ∨ UInt8.ofNat c = 47 ∨ UInt8.ofNat c ∈ (idS k d).data.toList := by simpa using hcm
    have hn : (UInt8.ofNat c).toNat = c := toNat_of c hl
    rcases this with h | h | h
    · rw [h] at hn; rw [← hn]; decide
    · rw [h] at hn; rw [← hn]; decide
    · have := hm _ h
      omega
  rw [hpr]
  have h40 := idS_size k d
  have hne : ∀ x : ByteArray, x.size < 40 → idS k d ≠ x := fun x hx e => by rw [e] at h40; omega
  have : partOK (idS k d) = true := by
    unfold partOK
    rw [Bool.and_eq_true, Bool.and_eq_true]
    exact ⟨⟨decide_eq_true (hne _ (by decide)), decide_eq_true (hne _ (by decide))⟩, decide_eq_true (hne _ (by decide))⟩
  rw [List.all_cons, List.all_cons, this]; rfl
theorem few_ok {ys : List FileE} (h : ys.length ≤ 1) (hf : ∀ y ∈ ys, FOK y) : NewOK ys := by
  match ys, h with
  | [], _ => exact ⟨fun i x hx => by simp at hx, fun x hx => by simp at hx⟩
  | [y], _ =>
    obtain ⟨k, d, _, _, rfl⟩ := hf y (by simp)
    refine ⟨fun i x hx => ?_, fun x hx => ?_⟩
    · cases i with
      | zero =>
        simp only [List.getElem?_cons_zero, Option.some.injEq] at hx
        subst hx
        exact ⟨path_clean k d, fun y h => by omega⟩
      | succ i => simp at hx
    · simp only [List.mem_cons, List.mem_nil_iff, or_false] at hx
      subst hx
      unfold underE
      rw [List.filter_cons_of_neg (by
        unfold begB
        intro h
        have := (of_decide_eq_true h).length_le
        rw [bs_len, bs_len, ByteArray.size_append] at this
        have h1 : (⟨#[47]⟩ : ByteArray).size = 1 := rfl
        omega)]
      rfl
theorem total_ok : ∀ {xs : List FileE}, (∀ x ∈ xs, FOK x) → totalF xs ≤ 311 * xs.length
  | [], _ => by simp [totalF]
  | x :: xs, h => by
    have ih := total_ok (xs := xs) fun y hy => h y (List.mem_cons_of_mem _ hy)
    obtain ⟨k, d, hk, hd, rfl⟩ := h x (by simp)
    have := encS_size hk hd
    unfold totalF at ih ⊢
    rw [List.map_cons, List.sum_cons, List.length_cons]
    dsimp only
    omega
end Go.Proofs.YtoagdpjickippaaDoor
