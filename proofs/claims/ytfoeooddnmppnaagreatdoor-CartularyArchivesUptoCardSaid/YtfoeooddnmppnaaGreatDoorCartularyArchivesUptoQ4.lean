/- Texts of this seat in one: made by a program of ours. -/
import Derived.Test.YtfoeooddnmppnaaGreatDoorCartularyArchivesUptoQ0
import Derived.Test.YtfoeooddnmppnaaGreatDoorCartularyArchivesUptoQ1
import Derived.Test.YtfoeooddnmppnaaGreatDoorCartularyArchivesUptoQ2
import Derived.Test.YtfoeooddnmppnaaGreatDoorCartularyArchivesUptoQ3
import Derived.Test.YtfoeooddnmppnaaGreatDoorProg
import Derived.Laws.CopyRow
/- slices.SortStableFunc's parts over files, held against one another by Hash's closure: swapRange, rotate, insertionSort. Condition: no more than a million files. -/
set_option linter.unusedVariables false
namespace Go.Proofs.YtfoeooddnmppnaaGreatDoor
open Go Vc Go.Proofs StabM

section
variable {w : World} {base : Nat} {l : Sl}
theorem swapRange_hash {P X M Y S : List FileE} (ho : OwnK encF 2 w base T_api_File l (P ++ (X ++ (M ++ (Y ++ S))))) (hl : Y.length = X.length) (hs : l.len ≤ 1000000) :
    Calls Tryz.prog F_slices_swapRangeCmpFunc #[.slice l.a l.len l.cap, .int .i64 (P.length : Int), .int .i64 ((P.length + X.length + M.length : Nat) : Int), .int .i64 (X.length : Int), .func (.func F_modzip_Hash_1) #[] #[]] w fun e w' =>
      e = .returned (.tuple #[]) ∧ OwnK encF 2 w' base T_api_File l (P ++ (Y ++ (M ++ (X ++ S)))) ∧ Fr (At l) w w' := by
  refine vc_slices_swapRangeCmpFunc_hash_ok (R := fun v w' => v = .tuple #[] ∧ OwnK encF 2 w' base T_api_File l (P ++ (Y ++ (M ++ (X ++ S)))) ∧ Fr (At l) w w') ?_ (fun v w' h => ⟨by rw [h.1], h.2⟩)
  have hlen := ho.len
  simp only [List.length_append] at hlen
  refine ⟨fun i w' => ∃ k : Nat, i = k ∧ k ≤ X.length ∧ OwnK encF 2 w' base T_api_File l (P ++ (Y.take k ++ (X.drop k ++ (M ++ (X.take k ++ (Y.drop k ++ S)))))) ∧ Fr (At l) w w', fun i _ => X.length - i.toNat, ⟨0, rfl, Nat.zero_le _, by simpa using ho, .refl _ _⟩, ?_⟩
  clear ho
  rintro i w4 ⟨k, rfl, hk, ho, hf⟩
  refine ⟨fun hlt w5 d5 => ?_, fun hge => ?_⟩
  · have hlt := of_decide_eq_true hlt
    have hkX : k < X.length := by omega
    have hkY : k < Y.length := by omega
    have hX : X.drop k = X[k] :: X.drop (k + 1) := List.drop_eq_getElem_cons hkX
    have hY : Y.drop k = Y[k] :: Y.drop (k + 1) := List.drop_eq_getElem_cons hkY
    have hX2 : X.take (k + 1) = X.take k ++ [X[k]] := (List.take_append_getElem hkX).symm
    have hY2 : Y.take (k + 1) = Y.take k ++ [Y[k]] := (List.take_append_getElem hkY).symm
    generalize X[k] = x at hX hX2
    generalize Y[k] = y at hY hY2
    have ho5 := ho.drew d5
    have hxs : P ++ (Y.take k ++ (X.drop k ++ (M ++ (X.take k ++ (Y.drop k ++ S))))) = (P ++ Y.take k) ++ x :: ((X.drop (k + 1) ++ (M ++ X.take k)) ++ y :: (Y.drop (k + 1) ++ S)) := by
      rw [hX, hY]; simp only [List.append_assoc, List.cons_append]
    rw [hxs] at ho5
    have l1 : (P ++ Y.take k).length = P.length + k := by rw [List.length_append, List.length_take]; omega
    have l2 : (X.drop (k + 1) ++ (M ++ X.take k)).length = X.length - (k + 1) + (M.length + k) := by rw [List.length_append, List.length_append, List.length_drop, List.length_take]; omega
    have hgx : ((P ++ Y.take k) ++ x :: ((X.drop (k + 1) ++ (M ++ X.take k)) ++ y :: (Y.drop (k + 1) ++ S)))[P.length + k]? = some x := by rw [← l1]; exact gets _ _ _
    have hgy : ((P ++ Y.take k) ++ x :: ((X.drop (k + 1) ++ (M ++ X.take k)) ++ y :: (Y.drop (k + 1) ++ S)))[P.length + X.length + M.length + k]? = some y := by
      have := gets (((P ++ Y.take k) ++ x :: (X.drop (k + 1) ++ (M ++ X.take k)))) (Y.drop (k + 1) ++ S) y
      rw [List.length_append, List.length_cons, l1, l2, show P.length + k + (X.length - (k + 1) + (M.length + k) + 1) = P.length + X.length + M.length + k by omega] at this
      rw [← this]
      simp only [List.append_assoc, List.cons_append]
    obtain ⟨ad, had, hlx, hly, w16, hr16, w18, hr18, ho18, hf18⟩ := swap_at ho5 hgx hgy
    have e1 : IntKind.i64.wrap (((P.length + X.length + M.length : Nat) : Int) + (k : Int)) = ((P.length + X.length + M.length + k : Nat) : Int) := by rw [wrap_i64 (by omega) (by omega)]; omega
    have e2 : IntKind.i64.wrap ((P.length : Int) + (k : Int)) = ((P.length + k : Nat) : Int) := by rw [wrap_i64 (by omega) (by omega)]; omega
    have e3 : IntKind.i64.wrap ((k : Int) + 1) = ((k + 1 : Nat) : Int) := by rw [wrap_i64 (by omega) (by omega)]; omega
    rw [e1, e2, e3]
    repeat rw [Int.toNat_natCast]
    refine ⟨fun w' => w' = w5, rfl, ⟨by omega, by omega⟩, ad, had, y.path, y.data, fun w' h => by rw [h]; exact hly, ⟨by omega, by omega⟩, ad, had, x.path, x.data, fun w' h => by rw [h]; exact hlx, ⟨by omega, by omega⟩, ad, had, w16, hr16, ⟨by omega, by omega⟩, ad, had, w18, hr18, ⟨k + 1, rfl, by omega, ?_, (hf.trans' (.drew _ d5)).trans hf18 fun q _ h => h⟩, by dsimp only; omega⟩
    have hsw := swp (P ++ Y.take k) (X.drop (k + 1) ++ (M ++ X.take k)) (Y.drop (k + 1) ++ S) x y
    rw [l1, l2, show P.length + k + 1 + (X.length - (k + 1) + (M.length + k)) = P.length + X.length + M.length + k by omega] at hsw
    rw [hsw] at ho18
    rw [hX2, hY2]
    simpa only [List.append_assoc, List.cons_append, List.nil_append] using ho18
  · have hge := of_decide_eq_false hge
    have hk' : k = X.length := by omega
    rw [hk', List.take_length, List.drop_length, ← hl, List.take_length, List.drop_length] at ho
    exact ⟨rfl, by simpa using ho, hf⟩
theorem rotate_hash {P X Y S : List FileE} (ho : OwnK encF 2 w base T_api_File l (P ++ (X ++ (Y ++ S)))) (hX : 0 < X.length) (hY : 0 < Y.length) (hs : l.len ≤ 1000000) :
    Calls Tryz.prog F_slices_rotateCmpFunc #[.slice l.a l.len l.cap, .int .i64 (P.length : Int), .int .i64 ((P.length + X.length : Nat) : Int), .int .i64 ((P.length + X.length + Y.length : Nat) : Int), .func (.func F_modzip_Hash_1) #[] #[]] w fun e w' =>
      e = .returned (.tuple #[]) ∧ OwnK encF 2 w' base T_api_File l (P ++ (Y ++ (X ++ S))) ∧ Fr (At l) w w' := by
  refine vc_slices_rotateCmpFunc_hash_ok (R := fun v w' => v = .tuple #[] ∧ OwnK encF 2 w' base T_api_File l (P ++ (Y ++ (X ++ S))) ∧ Fr (At l) w w') ?_ (fun v w' h => ⟨by rw [h.1], h.2⟩)
  have hlen := ho.len
  simp only [List.length_append] at hlen
  have e1 : IntKind.i64.wrap (((P.length + X.length : Nat) : Int) - (P.length : Int)) = (X.length : Int) := by rw [wrap_i64 (by omega) (by omega)]; omega
  have e2 : IntKind.i64.wrap (((P.length + X.length + Y.length : Nat) : Int) - ((P.length + X.length : Nat) : Int)) = (Y.length : Int) := by rw [wrap_i64 (by omega) (by omega)]; omega
  unfold vc_slices_rotateCmpFunc_hash
  rw [e1, e2]
  refine ⟨fun i j w' => ∃ P' X' Y' S' : List FileE, OwnK encF 2 w' base T_api_File l (P' ++ (X' ++ (Y' ++ S'))) ∧ P' ++ (Y' ++ (X' ++ S')) = P ++ (Y ++ (X ++ S)) ∧ i = X'.length ∧ j = Y'.length ∧ 0 < X'.length ∧ 0 < Y'.length ∧ P'.length + X'.length = P.length + X.length ∧ Fr (At l) w w',
    fun i j _ => i.toNat + j.toNat, ⟨P, X, Y, S, ho, rfl, rfl, rfl, hX, hY, rfl, .refl _ _⟩, ?_⟩
  clear ho e1 e2
  rintro i j w5 ⟨P', X', Y', S', ho, hT, rfl, rfl, hX', hY', hm, hf⟩
  have hlen' := ho.len
  simp only [List.length_append] at hlen'
  have e3 : IntKind.i64.wrap (((P.length + X.length : Nat) : Int) - (X'.length : Int)) = (P'.length : Int) := by rw [wrap_i64 (by omega) (by omega)]; omega
  rw [e3]
  refine ⟨fun hne => ⟨fun hgt => ?_, fun hle => ?_⟩, fun heq => ?_⟩
  · have hgt := of_decide_eq_true hgt
    have e4 : ((P.length + X.length : Nat) : Int) = ((P'.length + (X'.take Y'.length).length + (X'.drop Y'.length).length : Nat) : Int) := by rw [List.length_take, List.length_drop]; omega
    have e5 : (Y'.length : Int) = ((X'.take Y'.length).length : Int) := by rw [List.length_take]; omega
    have e6 : IntKind.i64.wrap ((X'.length : Int) - (Y'.length : Int)) = ((X'.length - Y'.length : Nat) : Int) := by rw [wrap_i64 (by omega) (by omega)]; omega
    have ho' : OwnK encF 2 w5 base T_api_File l (P' ++ (X'.take Y'.length ++ (X'.drop Y'.length ++ (Y' ++ S')))) := by
      rw [← List.append_assoc (X'.take Y'.length), List.take_append_drop]; exact ho
    rw [e4, e6]
    conv => arg 3; rw [e5]
    refine (swapRange_hash ho' (by rw [List.length_take]; omega) hs).mono ?_
    rintro e w7 ⟨rfl, ho7, hf7⟩
    refine ⟨rfl, ⟨P' ++ Y', X'.drop Y'.length, X'.take Y'.length, S', by rw [List.append_assoc]; exact ho7, ?_, by rw [List.length_drop], by rw [List.length_take]; omega, by rw [List.length_drop]; omega, by rw [List.length_take]; omega, by rw [List.length_append, List.length_drop]; omega, hf.trans hf7 fun q _ h => h⟩, by dsimp only; omega⟩
    rw [← hT, List.append_assoc, ← List.append_assoc (X'.take Y'.length), List.take_append_drop]
  · have hle := of_decide_eq_false hle
    have hne : X'.length ≠ Y'.length := fun h => by rw [h] at hne; simp at hne
    have e4 : IntKind.i64.wrap (IntKind.i64.wrap (((P.length + X.length : Nat) : Int) + (Y'.length : Int)) - (X'.length : Int)) = ((P'.length + X'.length + (Y'.take (Y'.length - X'.length)).length : Nat) : Int) := by
      rw [wrap_i64 (x := ((P.length + X.length : Nat) : Int) + (Y'.length : Int)) (by omega) (by omega), wrap_i64 (by omega) (by omega), List.length_take]; omega
    have e6 : IntKind.i64.wrap ((Y'.length : Int) - (X'.length : Int)) = ((Y'.length - X'.length : Nat) : Int) := by rw [wrap_i64 (by omega) (by omega)]; omega
    have ho' : OwnK encF 2 w5 base T_api_File l (P' ++ (X' ++ (Y'.take (Y'.length - X'.length) ++ (Y'.drop (Y'.length - X'.length) ++ S')))) := by
      rw [← List.append_assoc (Y'.take (Y'.length - X'.length)), List.take_append_drop]; exact ho
    rw [e4, e6]
    refine (swapRange_hash ho' (by rw [List.length_drop]; omega) hs).mono ?_
    rintro e w7 ⟨rfl, ho7, hf7⟩
    refine ⟨rfl, ⟨P', Y'.drop (Y'.length - X'.length), Y'.take (Y'.length - X'.length), X' ++ S', ho7, ?_, by rw [List.length_drop]; omega, by rw [List.length_take]; omega, by rw [List.length_drop]; omega, by rw [List.length_take]; omega, by rw [List.length_drop]; omega, hf.trans hf7 fun q _ h => h⟩, by dsimp only; omega⟩
    rw [← hT, ← List.append_assoc (Y'.take (Y'.length - X'.length)), List.take_append_drop]
  · have heq : X'.length = Y'.length := by
      by_cases h : X'.length = Y'.length
      · exact h
      · have : ((X'.length : Int) != (Y'.length : Int)) = true := by simp; omega
        rw [this] at heq; cases heq
    have e4 : ((P.length + X.length : Nat) : Int) = ((P'.length + X'.length + ([] : List FileE).length : Nat) : Int) := by rw [List.length_nil]; omega
    rw [e4]
    refine (swapRange_hash (M := []) (by simpa using ho) heq.symm hs).mono ?_
    rintro e w7 ⟨rfl, ho7, hf7⟩
    exact ⟨rfl, rfl, by rw [← hT]; simpa using ho7, hf.trans hf7 fun q _ h => h⟩
theorem insertion_hash {P A S : List FileE} (ho : OwnK encF 2 w base T_api_File l (P ++ (A ++ S))) (hs : l.len ≤ 1000000) :
    Calls Tryz.prog F_slices_insertionSortCmpFunc #[.slice l.a l.len l.cap, .int .i64 (P.length : Int), .int .i64 ((P.length + A.length : Nat) : Int), .func (.func F_modzip_Hash_1) #[] #[]] w fun e w' =>
      e = .returned (.tuple #[]) ∧ OwnK encF 2 w' base T_api_File l (P ++ (isort ltP A ++ S)) ∧ Fr (At l) w w' := by
  refine vc_slices_insertionSortCmpFunc_hash_ok (R := fun v w' => v = .tuple #[] ∧ OwnK encF 2 w' base T_api_File l (P ++ (isort ltP A ++ S)) ∧ Fr (At l) w w') ?_ (fun v w' h => ⟨by rw [h.1], h.2⟩)
  have hlen := ho.len
  simp only [List.length_append] at hlen
  have e1 : IntKind.i64.wrap ((P.length : Int) + 1) = ((P.length + 1 : Nat) : Int) := by rw [wrap_i64 (by omega) (by omega)]; omega
  unfold vc_slices_insertionSortCmpFunc_hash
  rw [e1]
  have hini : isort ltP (A.take 1) = A.take 1 := by
    cases A with
    | nil => rfl
    | cons x r => rfl
  refine ⟨fun i w' => ∃ k : Nat, i = ((P.length + k : Nat) : Int) ∧ 1 ≤ k ∧ k ≤ A.length + 1 ∧ OwnK encF 2 w' base T_api_File l (P ++ (isort ltP (A.take k) ++ (A.drop k ++ S))) ∧ Fr (At l) w w', fun i _ => P.length + A.length + 1 - i.toNat,
    ⟨1, rfl, Nat.le_refl _, by omega, by rw [hini, ← List.append_assoc (A.take 1), List.take_append_drop]; exact ho, .refl _ _⟩, ?_⟩
  clear ho
  rintro i w4 ⟨k, rfl, hk1, hk2, ho, hf⟩
  refine ⟨fun hlt => ?_, fun hge => ?_⟩
  · have hlt := of_decide_eq_true hlt
    have hkA : k < A.length := by omega
    have hdr : A.drop k = A[k] :: A.drop (k + 1) := List.drop_eq_getElem_cons hkA
    have htk : A.take (k + 1) = A.take k ++ [A[k]] := (List.take_append_getElem hkA).symm
    generalize A[k] = x at hdr htk
    obtain ⟨hso, hpe⟩ := isort_all ordP.tr ordP.asy _ (A.take k) rfl
    have hil : (isort ltP (A.take k)).length = k := by rw [hpe.length_eq, List.length_take]; omega
    have hput : isort ltP (A.take (k + 1)) = put ltP x (isort ltP (A.take k)) := by rw [htk, isort_snoc]
    rw [hdr] at ho
    generalize hD : A.drop (k + 1) = D at *
    have hDl : D.length = A.length - (k + 1) := by rw [← hD, List.length_drop]
    clear htk hpe hdr
    generalize isort ltP (A.take k) = I at *
    have e3 : IntKind.i64.wrap (((P.length + k : Nat) : Int) + 1) = ((P.length + (k + 1) : Nat) : Int) := by rw [wrap_i64 (by omega) (by omega)]; omega
    rw [e3]
    refine ⟨fun j w' => ∃ L R : List FileE, I = L ++ R ∧ j = ((P.length + L.length : Nat) : Int) ∧ (∀ y ∈ R, ltP x y = true) ∧ OwnK encF 2 w' base T_api_File l (P ++ (L ++ (x :: (R ++ (D ++ S))))) ∧ Fr (At l) w w', fun j _ => j.toNat,
      ⟨I, [], (List.append_nil I).symm, by rw [hil], fun y hy => (by simp at hy), by simpa using ho, hf⟩, ?_⟩
    clear ho
    rintro j w8 ⟨L, R, hI, rfl, hR, ho, hf8⟩ w9 d9
    have hLR : L.length + R.length = k := by rw [← hil, hI, List.length_append]
    have ho9 := ho.drew d9
    have hf9 : Fr (At l) w w9 := hf8.trans' (.drew _ d9)
    have hgx : (P ++ (L ++ (x :: (R ++ (D ++ S)))))[P.length + L.length]? = some x := by
      have := gets (P ++ L) (R ++ (D ++ S)) x
      rw [List.length_append, List.append_assoc] at this
      exact this
    refine ⟨fun w' => Fr (fun _ => False) w9 w', .refl _ _, fun hgt => ?_, fun hle => ⟨.refl _ _, ⟨k + 1, rfl, by omega, by omega, ?_, hf9⟩, by dsimp only; omega⟩⟩
    · have hgt := of_decide_eq_true hgt
      have hL0 : L ≠ [] := fun h => by rw [h] at hgt; simp only [List.length_nil] at hgt; omega
      have hLs := List.dropLast_concat_getLast hL0
      generalize hy : L.getLast hL0 = y at hLs
      generalize L.dropLast = L' at hLs
      subst hLs
      have hL' : (L' ++ [y]).length = L'.length + 1 := by rw [List.length_append]; rfl
      rw [hL'] at hgx hLR hgt ⊢
      have hgy : (P ++ ((L' ++ [y]) ++ (x :: (R ++ (D ++ S)))))[P.length + L'.length]? = some y := by
        have := gets (P ++ L') (x :: (R ++ (D ++ S))) y
        rw [List.length_append, List.append_assoc] at this
        rw [← this]
        simp only [List.append_assoc, List.cons_append, List.nil_append]
      have e2 : IntKind.i64.wrap (((P.length + (L'.length + 1) : Nat) : Int) - 1) = ((P.length + L'.length : Nat) : Int) := by rw [wrap_i64 (by omega) (by omega)]; omega
      rw [e2]
      obtain ⟨ad, had, hlx⟩ := load_at ho9 hgx
      obtain ⟨ad2, had2, hly⟩ := load_at ho9 hgy
      refine ⟨⟨by omega, by omega⟩, ad, had, ⟨by omega, by omega⟩, ad2, had2, x.path, x.data, by rw [Int.toNat_natCast]; exact hlx, y.path, y.data, by rw [Int.toNat_natCast]; exact hly, (hash1_spec x y w9).mono ?_⟩
      rintro e w20 ⟨z, rfl, hz, hf20⟩
      refine ⟨z, rfl, hf20, fun h => ?_, fun h => ?_⟩
      · intro w22 d22
        have ho22 := (ho9.keep hf20 (by simp)).drew d22
        have hf22 : Fr (At l) w w22 := (hf9.trans' (hf20.mono (by simp))).trans' (.drew _ d22)
        obtain ⟨ad3, had3, hlx3, hly3, w33, hr33, w35, hr35, ho35, hf35⟩ := swap_at ho22 hgx hgy
        refine ⟨fun w' => w' = w22, rfl, ⟨by omega, by omega⟩, ad3, had3, y.path, y.data, fun w' h => by rw [h, Int.toNat_natCast]; exact hly3, ⟨by omega, by omega⟩, ad3, had3, x.path, x.data, fun w' h => by rw [h, Int.toNat_natCast]; exact hlx3, ⟨by omega, by omega⟩, ad3, had3, w33, by rw [Int.toNat_natCast]; exact hr33, ⟨by omega, by omega⟩, ad3, had3, w35, by rw [Int.toNat_natCast]; exact hr35,
          ⟨L', y :: R, by rw [hI]; simp, rfl, fun u hu => ?_, ?_, hf22.trans hf35 fun q _ h => h⟩, by dsimp only; omega⟩
        · rcases List.mem_cons.1 hu with rfl | hu
          · rw [← hz]; exact h
          · exact hR u hu
        · rw [List.set_comm _ _ (by omega)] at ho35
          have hsw := swp (P ++ L') [] (R ++ (D ++ S)) y x
          rw [List.length_append, List.length_nil, Nat.add_zero] at hsw
          simp only [List.append_assoc, List.cons_append, List.nil_append] at hsw ho35 ⊢
          rw [show P.length + (L'.length + 1) = P.length + L'.length + 1 by omega, hsw] at ho35
          exact ho35
      · rw [h] at hz
        have ho20 := ho9.keep hf20 (by simp)
        refine ⟨⟨k + 1, rfl, by omega, by omega, ?_, hf9.trans' (hf20.mono (by simp))⟩, by dsimp only; omega⟩
        rw [hput, hI, hD, put_at (L := L' ++ [y]) (R := R) ?_ ?_]
        · simp only [List.append_assoc, List.cons_append, List.nil_append] at ho20 ⊢
          exact ho20
        · intro u hu
          obtain ⟨q, hq, hqe⟩ := mem_idx hu
          rw [hL'] at hq
          have hsoL : Srt ltP (L' ++ [y]) := (List.pairwise_append.1 (hI ▸ hso)).1
          exact srt_nl ordP hsoL (by omega : q ≤ L'.length) hqe (gets L' [] y) hz.symm
        · intro u hu
          exact hR u (List.mem_of_mem_head? hu)
    · have hle := of_decide_eq_false hle
      have hL0 : L = [] := List.eq_nil_of_length_eq_zero (by omega)
      subst hL0
      rw [hput, hI, hD, put_at (L := []) (R := R) (fun u hu => (by simp at hu)) (fun u hu => hR u (List.mem_of_mem_head? hu))]
      simp only [List.cons_append, List.nil_append] at ho9 ⊢
      exact ho9
  · have hge := of_decide_eq_false hge
    have hk' : A.length ≤ k := by omega
    rw [List.take_of_length_le hk', List.drop_eq_nil_of_le hk'] at ho
    exact ⟨rfl, by simpa using ho, hf⟩
end
end Go.Proofs.YtfoeooddnmppnaaGreatDoor

/- slices.SortStableFunc's symMerge over files, held against one another by Hash's closure. Condition: no more than a million files. -/
set_option linter.unusedVariables false
namespace Go.Proofs.YtfoeooddnmppnaaGreatDoor
open Go Vc Go.Proofs StabM

section
variable {w : World} {base : Nat} {l : Sl}
theorem half_hash (p q : Nat) (h : p + q ≤ 4000000) : IntKind.i64.wrap (Int.fdiv (IntKind.u64.wrap (IntKind.i64.wrap ((p : Int) + (q : Int)))) (2 ^ min (Int.toNat 1) 64)) = (((p + q) / 2 : Nat) : Int) := by
  rw [wrap_i64 (x := (p : Int) + (q : Int)) (by omega) (by omega), wrap_u64 (by omega) (by omega), show (2 : Int) ^ min (Int.toNat 1) 64 = 2 by decide, Int.fdiv_eq_ediv_of_nonneg _ (by omega), wrap_i64 (by omega) (by omega)]
  omega
set_option maxHeartbeats 1600000 in
theorem symMerge_hash : ∀ (n : Nat) {w : World} {P A B S : List FileE}, A.length + B.length ≤ n → OwnK encF 2 w base T_api_File l (P ++ (A ++ (B ++ S))) → 0 < A.length → 0 < B.length → Srt ltP A → Srt ltP B → l.len ≤ 1000000 →
    Calls Tryz.prog F_slices_symMergeCmpFunc #[.slice l.a l.len l.cap, .int .i64 (P.length : Int), .int .i64 ((P.length + A.length : Nat) : Int), .int .i64 ((P.length + A.length + B.length : Nat) : Int), .func (.func F_modzip_Hash_1) #[] #[]] w fun e w' =>
      e = .returned (.tuple #[]) ∧ OwnK encF 2 w' base T_api_File l (P ++ (mrg ltP A B ++ S)) ∧ Fr (At l) w w'
  | 0, w, P, A, B, S, hn, ho, hA, hB, _, _, hs => by omega
  | n + 1, w, P, A, B, S, hn, ho, hA, hB, sA, sB, hs => by
    refine vc_slices_symMergeCmpFunc_hash_ok (R := fun v w' => v = .tuple #[] ∧ OwnK encF 2 w' base T_api_File l (P ++ (mrg ltP A B ++ S)) ∧ Fr (At l) w w') ?_ (fun v w' h => ⟨by rw [h.1], h.2⟩)
    have hlen := ho.len
    simp only [List.length_append] at hlen
    have e1 : IntKind.i64.wrap (((P.length + A.length : Nat) : Int) - (P.length : Int)) = (A.length : Int) := by rw [wrap_i64 (by omega) (by omega)]; omega
    have e2 : IntKind.i64.wrap (((P.length + A.length + B.length : Nat) : Int) - ((P.length + A.length : Nat) : Int)) = (B.length : Int) := by rw [wrap_i64 (by omega) (by omega)]; omega
    unfold vc_slices_symMergeCmpFunc_hash
    rw [e1, e2]
    refine ⟨fun h1 => ?_, fun h1 => ⟨fun h2 => ?_, fun h2 => ⟨by decide, ?_⟩⟩⟩
    · -- one element ahead
      have hA0 : (A.length : Int) = 1 := by simpa using h1
      have hA1 : A.length = 1 := by omega
      obtain ⟨x, rfl⟩ : ∃ x, A = [x] := List.length_eq_one_iff.1 hA1
      simp only [List.length_cons, List.length_nil, Nat.zero_add] at hlen ⊢
      have hgx : (P ++ ([x] ++ (B ++ S)))[P.length]? = some x := gets P (B ++ S) x
      refine ⟨fun i j w' => ∃ p q : Nat, i = ((P.length + 1 + p : Nat) : Int) ∧ j = ((P.length + 1 + q : Nat) : Int) ∧ p ≤ q ∧ q ≤ B.length ∧ (∀ u y, u < p → B[u]? = some y → ltP y x = true) ∧ (∀ u y, q ≤ u → B[u]? = some y → ltP y x = false) ∧ Fr (fun _ => False) w w', fun i j _ => j.toNat - i.toNat,
        ⟨0, B.length, rfl, rfl, Nat.zero_le _, Nat.le_refl _, fun u y h => by omega, fun u y h hy => by have := (List.getElem?_eq_some_iff.1 hy).1; omega, .refl _ _⟩, ?_⟩
      rintro i j w5 ⟨p, q, rfl, rfl, hpq, hqB, hlo, hhi, hf⟩
      refine ⟨fun hlt => ⟨by decide, fun w6 d6 => ?_⟩, fun hge => ?_⟩
      · have hlt := of_decide_eq_true hlt
        rw [half_hash _ _ (by omega)]
        obtain ⟨m, hm⟩ : ∃ m, (P.length + 1 + p + (P.length + 1 + q)) / 2 = P.length + 1 + m := ⟨(p + q) / 2, by omega⟩
        have hm2 : m = (p + q) / 2 := by omega
        rw [hm]
        have hmB : m < B.length := by omega
        have hgm : B[m]? = some B[m] := List.getElem?_eq_getElem hmB
        generalize B[m] = y at hgm
        have hgy : (P ++ ([x] ++ (B ++ S)))[P.length + 1 + m]? = some y := by rw [← hgm]; exact get_B (A := [x]) hmB
        have ho6 := ho.keep (hf.trans' (.drew _ d6)) (by simp)
        obtain ⟨ad, had, hly⟩ := load_at ho6 hgy
        obtain ⟨ad2, had2, hlx⟩ := load_at ho6 hgx
        have e4 : IntKind.i64.wrap (((P.length + 1 + m : Nat) : Int) + 1) = ((P.length + 1 + (m + 1) : Nat) : Int) := by rw [wrap_i64 (by omega) (by omega)]; omega
        rw [e4]
        refine ⟨fun w' => Fr (fun _ => False) w6 w', .refl _ _, ⟨by omega, by omega⟩, ad, had, ⟨by omega, by omega⟩, ad2, had2, y.path, y.data, by rw [Int.toNat_natCast]; exact hly, x.path, x.data, by rw [Int.toNat_natCast]; exact hlx, (hash1_spec y x w6).mono ?_⟩
        rintro e w17 ⟨z, rfl, hz, hf17⟩
        have hf' : Fr (fun _ => False) w w17 := (hf.trans' (.drew _ d6)).trans' hf17
        refine ⟨z, rfl, hf17, fun h => ⟨⟨m + 1, q, rfl, rfl, by omega, hqB, fun u v hu hv => ?_, hhi, hf'⟩, by dsimp only; omega⟩, fun h => ⟨⟨p, m, rfl, rfl, by omega, by omega, hlo, fun u v hu hv => ?_, hf'⟩, by dsimp only; omega⟩⟩
        · exact srt_lt ordP sB (by omega : u ≤ m) hv hgm (by rw [← hz]; exact h)
        · exact srt_ng ordP sB hu hgm hv (by rw [← hz]; exact h)
      · have hge := of_decide_eq_false hge
        have hpq' : p = q := by omega
        subst hpq'
        have hB1 : ∀ y ∈ B.take p, ltP y x = true := fun y hy => by
          obtain ⟨u, hu, _, hv⟩ := mem_take_idx hy
          exact hlo u y hu hv
        have hB2 : ∀ y, (B.drop p).head? = some y → ltP y x = false := fun y hy => by
          rw [List.head?_drop] at hy
          exact hhi p y (Nat.le_refl _) hy
        have hmrg : mrg ltP [x] B = B.take p ++ x :: B.drop p := by
          have := mrg_one hB1 hB2
          rwa [List.take_append_drop] at this
        rw [hmrg]
        have hBs : B = B.take p ++ B.drop p := (List.take_append_drop p B).symm
        have hpl : (B.take p).length = p := by rw [List.length_take]; omega
        have hlB : B.length = p + (B.drop p).length := by rw [List.length_drop]; omega
        have ho5 := ho.keep hf (by simp)
        generalize hB1d : B.take p = B1 at *
        generalize hB2d : B.drop p = B2 at *
        rw [hBs] at ho5
        have e5 : IntKind.i64.wrap (((P.length + 1 + p : Nat) : Int) - 1) = ((P.length + p : Nat) : Int) := by rw [wrap_i64 (by omega) (by omega)]; omega
        rw [e5]
        refine ⟨fun i w' => ∃ k : Nat, i = ((P.length + k : Nat) : Int) ∧ k ≤ p ∧ OwnK encF 2 w' base T_api_File l (P ++ (B1.take k ++ (x :: (B1.drop k ++ (B2 ++ S))))) ∧ Fr (At l) w w', fun i _ => P.length + p - i.toNat, ⟨0, rfl, Nat.zero_le _, by simpa using ho5, hf.mono (by simp)⟩, ?_⟩
        rintro i w22 ⟨k, rfl, hk, ho22, hf22⟩
        refine ⟨fun hlt w23 d23 => ?_, fun hge => ?_⟩
        · have hlt := of_decide_eq_true hlt
          have hkl : k < B1.length := by omega
          have hdr : B1.drop k = B1[k] :: B1.drop (k + 1) := List.drop_eq_getElem_cons hkl
          have htk : B1.take (k + 1) = B1.take k ++ [B1[k]] := (List.take_append_getElem hkl).symm
          generalize B1[k] = y at hdr htk
          have ho23 := ho22.drew d23
          have htl : (P ++ B1.take k).length = P.length + k := by rw [List.length_append, List.length_take]; omega
          rw [hdr, ← List.append_assoc P] at ho23
          have hgx3 : ((P ++ B1.take k) ++ (x :: (y :: B1.drop (k + 1) ++ (B2 ++ S))))[P.length + k]? = some x := by rw [← htl]; exact gets _ _ _
          have hgy3 : ((P ++ B1.take k) ++ (x :: (y :: B1.drop (k + 1) ++ (B2 ++ S))))[P.length + k + 1]? = some y := by
            have := gets (P ++ B1.take k ++ [x]) (B1.drop (k + 1) ++ (B2 ++ S)) y
            rw [List.length_append, htl] at this
            rw [← this]
            simp only [List.append_assoc, List.cons_append, List.nil_append, List.length_cons, List.length_nil]
          obtain ⟨ad, had, hlx, hly, w34, hr34, w36, hr36, ho36, hf36⟩ := swap_at ho23 hgx3 hgy3
          have e6 : IntKind.i64.wrap (((P.length + k : Nat) : Int) + 1) = ((P.length + k + 1 : Nat) : Int) := by rw [wrap_i64 (by omega) (by omega)]; omega
          rw [e6]
          refine ⟨fun w' => w' = w23, rfl, ⟨by omega, by omega⟩, ad, had, y.path, y.data, fun w' h => by rw [h, Int.toNat_natCast]; exact hly, ⟨by omega, by omega⟩, ad, had, x.path, x.data, fun w' h => by rw [h, Int.toNat_natCast]; exact hlx, ⟨by omega, by omega⟩, ad, had, w34, by rw [Int.toNat_natCast]; exact hr34, ⟨by omega, by omega⟩, ad, had, w36, by rw [Int.toNat_natCast]; exact hr36, ⟨k + 1, rfl, by omega, ?_, (hf22.trans' (.drew _ d23)).trans hf36 fun q _ h => h⟩, by dsimp only; omega⟩
          have hsw := swp (P ++ B1.take k) [] (B1.drop (k + 1) ++ (B2 ++ S)) x y
          rw [htl, List.length_nil, Nat.add_zero] at hsw
          simp only [List.nil_append, List.cons_append] at hsw ho36
          rw [hsw] at ho36
          rw [htk]
          simpa only [List.append_assoc, List.cons_append, List.nil_append] using ho36
        · have hge := of_decide_eq_false hge
          have hk' : k = B1.length := by omega
          rw [hk', List.take_length, List.drop_length] at ho22
          exact ⟨trivial, by simpa using ho22, hf22⟩
    · -- one element behind
      have hB0 : (B.length : Int) = 1 := by simpa using h2
      have hB1 : B.length = 1 := by omega
      obtain ⟨x, rfl⟩ : ∃ x, B = [x] := List.length_eq_one_iff.1 hB1
      simp only [List.length_cons, List.length_nil, Nat.zero_add] at hlen ⊢
      have hgx : (P ++ (A ++ ([x] ++ S)))[P.length + A.length]? = some x := by
        have := gets (P ++ A) S x
        rw [List.length_append, List.append_assoc] at this
        exact this
      refine ⟨fun i j w' => ∃ p q : Nat, i = ((P.length + p : Nat) : Int) ∧ j = ((P.length + q : Nat) : Int) ∧ p ≤ q ∧ q ≤ A.length ∧ (∀ u y, u < p → A[u]? = some y → ltP x y = false) ∧ (∀ u y, q ≤ u → A[u]? = some y → ltP x y = true) ∧ Fr (fun _ => False) w w', fun i j _ => j.toNat - i.toNat,
        ⟨0, A.length, rfl, rfl, Nat.zero_le _, Nat.le_refl _, fun u y h => by omega, fun u y h hy => by have := (List.getElem?_eq_some_iff.1 hy).1; omega, .refl _ _⟩, ?_⟩
      rintro i j w5 ⟨p, q, rfl, rfl, hpq, hqA, hlo, hhi, hf⟩
      refine ⟨fun hlt => ⟨by decide, fun w6 d6 => ?_⟩, fun hge => ?_⟩
      · have hlt := of_decide_eq_true hlt
        rw [half_hash _ _ (by omega)]
        obtain ⟨m, hm⟩ : ∃ m, (P.length + p + (P.length + q)) / 2 = P.length + m := ⟨(p + q) / 2, by omega⟩
        have hm2 : m = (p + q) / 2 := by omega
        rw [hm]
        have hmA : m < A.length := by omega
        have hgm : A[m]? = some A[m] := List.getElem?_eq_getElem hmA
        generalize A[m] = y at hgm
        have hgy : (P ++ (A ++ ([x] ++ S)))[P.length + m]? = some y := by rw [← hgm]; exact get_A hmA
        have ho6 := ho.keep (hf.trans' (.drew _ d6)) (by simp)
        obtain ⟨ad, had, hly⟩ := load_at ho6 hgy
        obtain ⟨ad2, had2, hlx⟩ := load_at ho6 hgx
        have e4 : IntKind.i64.wrap (((P.length + m : Nat) : Int) + 1) = ((P.length + (m + 1) : Nat) : Int) := by rw [wrap_i64 (by omega) (by omega)]; omega
        rw [e4]
        refine ⟨fun w' => Fr (fun _ => False) w6 w', .refl _ _, ⟨by omega, by omega⟩, ad2, had2, ⟨by omega, by omega⟩, ad, had, x.path, x.data, by rw [Int.toNat_natCast]; exact hlx, y.path, y.data, by rw [Int.toNat_natCast]; exact hly, (hash1_spec x y w6).mono ?_⟩
        rintro e w17 ⟨z, rfl, hz, hf17⟩
        have hf' : Fr (fun _ => False) w w17 := (hf.trans' (.drew _ d6)).trans' hf17
        refine ⟨z, rfl, hf17, fun h => ⟨⟨m + 1, q, rfl, rfl, by omega, hqA, fun u v hu hv => ?_, hhi, hf'⟩, by dsimp only; omega⟩, fun h => ⟨⟨p, m, rfl, rfl, by omega, by omega, hlo, fun u v hu hv => ?_, hf'⟩, by dsimp only; omega⟩⟩
        · exact srt_nl ordP sA (by omega : u ≤ m) hv hgm (by rw [← hz]; simpa using h)
        · exact srt_gt ordP sA hu hgm hv (by rw [← hz]; simpa using h)
      · have hge := of_decide_eq_false hge
        have hpq' : p = q := by omega
        subst hpq'
        have hA1 : ∀ y ∈ A.take p, ltP x y = false := fun y hy => by
          obtain ⟨u, hu, _, hv⟩ := mem_take_idx hy
          exact hlo u y hu hv
        have hA2 : ∀ y ∈ A.drop p, ltP x y = true := fun y hy => by
          obtain ⟨u, hu, _, hv⟩ := mem_drop_idx hy
          exact hhi u y hu hv
        have hmrg : mrg ltP A [x] = A.take p ++ x :: A.drop p := by
          have := mrg_last hA1 hA2
          rwa [List.take_append_drop] at this
        rw [hmrg]
        have hAs : A = A.take p ++ A.drop p := (List.take_append_drop p A).symm
        have hpl : (A.take p).length = p := by rw [List.length_take]; omega
        have hlA : A.length = p + (A.drop p).length := by rw [List.length_drop]; omega
        have ho5 := ho.keep hf (by simp)
        generalize hA1d : A.take p = A1 at *
        generalize hA2d : A.drop p = A2 at *
        rw [hAs] at ho5
        refine ⟨fun i w' => ∃ k : Nat, i = ((P.length + p + k : Nat) : Int) ∧ k ≤ A2.length ∧ OwnK encF 2 w' base T_api_File l (P ++ (A1 ++ (A2.take k ++ (x :: (A2.drop k ++ S))))) ∧ Fr (At l) w w', fun i _ => i.toNat, ⟨A2.length, by omega, Nat.le_refl _, by simpa using ho5, hf.mono (by simp)⟩, ?_⟩
        rintro i w22 ⟨k, rfl, hk, ho22, hf22⟩
        refine ⟨fun hlt w23 d23 => ?_, fun hge => ?_⟩
        · have hlt := of_decide_eq_true hlt
          obtain ⟨k, rfl⟩ : ∃ m, k = m + 1 := ⟨k - 1, by omega⟩
          have hkl : k < A2.length := by omega
          have hdr : A2.drop k = A2[k] :: A2.drop (k + 1) := List.drop_eq_getElem_cons hkl
          have htk : A2.take (k + 1) = A2.take k ++ [A2[k]] := (List.take_append_getElem hkl).symm
          generalize A2[k] = y at hdr htk
          have ho23 := ho22.drew d23
          have htl : (P ++ (A1 ++ A2.take k)).length = P.length + p + k := by rw [List.length_append, List.length_append, List.length_take]; omega
          have hxs : P ++ (A1 ++ (A2.take (k + 1) ++ (x :: (A2.drop (k + 1) ++ S)))) = (P ++ (A1 ++ A2.take k)) ++ y :: ([] ++ x :: (A2.drop (k + 1) ++ S)) := by
            rw [htk]; simp only [List.append_assoc, List.cons_append, List.nil_append]
          rw [hxs] at ho23
          have hgy3 : ((P ++ (A1 ++ A2.take k)) ++ y :: ([] ++ x :: (A2.drop (k + 1) ++ S)))[P.length + p + k]? = some y := by rw [← htl]; exact gets _ _ _
          have hgx3 : ((P ++ (A1 ++ A2.take k)) ++ y :: ([] ++ x :: (A2.drop (k + 1) ++ S)))[P.length + p + (k + 1)]? = some x := by
            have := gets ((P ++ (A1 ++ A2.take k)) ++ [y]) (A2.drop (k + 1) ++ S) x
            rw [List.length_append, htl, show P.length + p + k + [y].length = P.length + p + (k + 1) by simp only [List.length_cons, List.length_nil]; omega] at this
            rw [← this]
            simp only [List.append_assoc, List.cons_append, List.nil_append]
          obtain ⟨ad, had, hlx, hly, w34, hr34, w36, hr36, ho36, hf36⟩ := swap_at ho23 hgx3 hgy3
          have e6 : IntKind.i64.wrap (((P.length + p + (k + 1) : Nat) : Int) - 1) = ((P.length + p + k : Nat) : Int) := by rw [wrap_i64 (by omega) (by omega)]; omega
          rw [e6]
          refine ⟨fun w' => w' = w23, rfl, ⟨by omega, by omega⟩, ad, had, y.path, y.data, fun w' h => by rw [h, Int.toNat_natCast]; exact hly, ⟨by omega, by omega⟩, ad, had, x.path, x.data, fun w' h => by rw [h, Int.toNat_natCast]; exact hlx, ⟨by omega, by omega⟩, ad, had, w34, by rw [Int.toNat_natCast]; exact hr34, ⟨by omega, by omega⟩, ad, had, w36, by rw [Int.toNat_natCast]; exact hr36, ⟨k, rfl, by omega, ?_, (hf22.trans' (.drew _ d23)).trans hf36 fun q _ h => h⟩, by dsimp only; omega⟩
          rw [List.set_comm _ _ (by omega)] at ho36
          have hsw := swp (P ++ (A1 ++ A2.take k)) [] (A2.drop (k + 1) ++ S) y x
          rw [htl, List.length_nil, Nat.add_zero, show P.length + p + k + 1 = P.length + p + (k + 1) by omega] at hsw
          rw [hsw] at ho36
          rw [hdr]
          simpa only [List.append_assoc, List.cons_append, List.nil_append] using ho36
        · have hge := of_decide_eq_false hge
          have hk' : k = 0 := by omega
          subst hk'
          exact ⟨trivial, by simpa using ho22, hf22⟩
    · obtain ⟨mid, hmid⟩ : ∃ mid, (P.length + (P.length + A.length + B.length)) / 2 = mid := ⟨_, rfl⟩
      rw [half_hash _ _ (by omega), hmid]
      have hn1 : A.length ≠ 1 := fun h => by rw [h] at h1; simp at h1
      have hn2 : B.length ≠ 1 := fun h => by rw [h] at h2; simp at h2
      have e3 : IntKind.i64.wrap ((mid : Int) + ((P.length + A.length : Nat) : Int)) = ((mid + (P.length + A.length) : Nat) : Int) := by rw [wrap_i64 (by omega) (by omega)]; omega
      rw [e3]
      obtain ⟨N, hN⟩ : ∃ N, mid + (P.length + A.length) = N := ⟨_, rfl⟩
      rw [hN]
      have e4 : IntKind.i64.wrap ((N : Int) - 1) = ((N - 1 : Nat) : Int) := by rw [wrap_i64 (by omega) (by omega)]; omega
      rw [e4]
      obtain ⟨xs, hxs⟩ : ∃ xs, P ++ (A ++ (B ++ S)) = xs := ⟨_, rfl⟩
      have hxl : xs.length = l.len := ho.len.symm ▸ (by rw [hxs])
      refine ⟨fun i j w' => w' = w ∧ ∃ lo hi : Nat, i = lo ∧ j = hi ∧ P.length ≤ lo ∧ lo ≤ hi ∧ hi ≤ P.length + A.length ∧ hi ≤ mid ∧ (lo = P.length ∨ N = P.length + A.length + B.length + lo) ∧ (hi = P.length + A.length ∨ hi = mid) ∧ N ≤ P.length + A.length + B.length + lo,
        ⟨fun h => ⟨rfl, N - (P.length + A.length + B.length), mid, ?_, rfl, ?_⟩, fun h => ⟨rfl, P.length, P.length + A.length, rfl, rfl, ?_⟩⟩, ?_⟩
      · have h := of_decide_eq_true h
        rw [wrap_i64 (by omega) (by omega)]; omega
      · have h := of_decide_eq_true h
        refine ⟨by omega, by omega, by omega, by omega, .inr (by omega), .inr rfl, by omega⟩
      · have h := of_decide_eq_false h
        refine ⟨by omega, by omega, by omega, by omega, .inl rfl, .inl rfl, by omega⟩
      rintro i j w76 ⟨hw, lo, hi, rfl, rfl, q1, q2, q3, q4, q5, q6, q7⟩
      subst hw
      refine ⟨fun i j w' => ∃ s r : Nat, i = s ∧ j = r ∧ lo ≤ s ∧ s ≤ r ∧ r ≤ hi ∧ (s = lo ∨ ∃ x y, xs[s - 1]? = some x ∧ xs[N - s]? = some y ∧ ltP y x = false) ∧ (r = hi ∨ ∃ x y, xs[r]? = some x ∧ xs[N - 1 - r]? = some y ∧ ltP y x = true) ∧ Fr (fun _ => False) w76 w', fun i j _ => j.toNat - i.toNat,
        ⟨lo, hi, rfl, rfl, Nat.le_refl _, q2, Nat.le_refl _, .inl rfl, .inl rfl, .refl _ _⟩, ?_⟩
      rintro i j w81 ⟨s, r, rfl, rfl, r1, r2, r3, hs1, hr1, hf⟩
      refine ⟨fun hlt => ⟨by decide, fun w82 d82 => ?_⟩, fun hge => ?_⟩
      · have hlt := of_decide_eq_true hlt
        rw [half_hash _ _ (by omega)]
        obtain ⟨c, hc⟩ : ∃ c, (s + r) / 2 = c := ⟨_, rfl⟩
        rw [hc]
        have e5 : IntKind.i64.wrap (((N - 1 : Nat) : Int) - (c : Int)) = ((N - 1 - c : Nat) : Int) := by rw [wrap_i64 (by omega) (by omega)]; omega
        have e6 : IntKind.i64.wrap ((c : Int) + 1) = ((c + 1 : Nat) : Int) := by rw [wrap_i64 (by omega) (by omega)]; omega
        rw [e5, e6]
        have hc1 : c < xs.length := by omega
        have hc2 : N - 1 - c < xs.length := by omega
        have hgx : xs[c]? = some xs[c] := List.getElem?_eq_getElem hc1
        have hgy : xs[N - 1 - c]? = some xs[N - 1 - c] := List.getElem?_eq_getElem hc2
        generalize xs[c] = x at hgx
        generalize xs[N - 1 - c] = y at hgy
        have ho82 := ho.keep (hf.trans' (.drew _ d82)) (by simp)
        rw [hxs] at ho82
        obtain ⟨ad, had, hly⟩ := load_at ho82 hgy
        obtain ⟨ad2, had2, hlx⟩ := load_at ho82 hgx
        refine ⟨fun w' => Fr (fun _ => False) w82 w', .refl _ _, ⟨by omega, by omega⟩, ad, had, ⟨by omega, by omega⟩, ad2, had2, y.path, y.data, by rw [Int.toNat_natCast]; exact hly, x.path, x.data, by rw [Int.toNat_natCast]; exact hlx, (hash1_spec y x w82).mono ?_⟩
        rintro e w93 ⟨z, rfl, hz, hf93⟩
        have hf' : Fr (fun _ => False) w76 w93 := (hf.trans' (.drew _ d82)).trans' hf93
        refine ⟨z, rfl, hf93, fun h => ⟨⟨c + 1, r, rfl, rfl, by omega, by omega, r3, .inr ⟨x, y, hgx, ?_, by rw [← hz]; simpa using h⟩, hr1, hf'⟩, by dsimp only; omega⟩, fun h => ⟨⟨s, c, rfl, rfl, r1, by omega, by omega, hs1, .inr ⟨x, y, hgx, hgy, by rw [← hz]; simpa using h⟩, hf'⟩, by dsimp only; omega⟩⟩
        rw [show N - (c + 1) = N - 1 - c by omega]; exact hgy
      · have hge := of_decide_eq_false hge
        have hsr : s = r := by omega
        subst hsr
        obtain ⟨s', rfl⟩ : ∃ s', s = P.length + s' := ⟨s - P.length, by omega⟩
        obtain ⟨t, ht⟩ : ∃ t, mid = P.length + s' + t := ⟨mid - (P.length + s'), by omega⟩
        have hs'A : s' ≤ A.length := by omega
        have htB : t ≤ B.length := by omega
        have hcut : mrg ltP A B = mrg ltP (A.take s') (B.take t) ++ mrg ltP (A.drop s') (B.drop t) := by
          refine mrg_cut ordP sA sB s' t ?_ ?_
          · by_cases h0 : P.length + s' = lo
            · rcases q5 with h | h
              · exact .inl (by omega)
              · exact .inr (.inl (by omega))
            · obtain ⟨x, y, hx, hy, hl⟩ := hs1.resolve_left h0
              refine .inr (.inr ⟨x, y, ?_, ?_, hl⟩)
              · rw [← hx, ← hxs, show P.length + s' - 1 = P.length + (s' - 1) by omega]; exact (get_A (by omega)).symm
              · rw [← hy, ← hxs, show N - (P.length + s') = P.length + A.length + t by omega]; exact (get_B (by omega)).symm
          · by_cases h0 : P.length + s' = hi
            · rcases q6 with h | h
              · exact .inl (by omega)
              · exact .inr (.inl (by omega))
            · obtain ⟨x, y, hx, hy, hl⟩ := hr1.resolve_left h0
              refine .inr (.inr ⟨x, y, ?_, ?_, hl⟩)
              · rw [← hx, ← hxs]; exact (get_A (by omega)).symm
              · rw [← hy, ← hxs, show N - 1 - (P.length + s') = P.length + A.length + (t - 1) by omega]; exact (get_B (by omega)).symm
        rw [hcut]
        have hsA1 := sA.take s'
        have hsA2 := sA.drop s'
        have hsB1 := sB.take t
        have hsB2 := sB.drop t
        have hAs : A = A.take s' ++ A.drop s' := (List.take_append_drop s' A).symm
        have hBs : B = B.take t ++ B.drop t := (List.take_append_drop t B).symm
        have hA1l : (A.take s').length = s' := by rw [List.length_take]; omega
        have hA2l : (A.drop s').length = A.length - s' := List.length_drop
        have hB1l : (B.take t).length = t := by rw [List.length_take]; omega
        have hB2l : (B.drop t).length = B.length - t := List.length_drop
        have ho81 := ho.keep hf (by simp)
        generalize A.take s' = A1 at *
        generalize A.drop s' = A2 at *
        generalize B.take t = B1 at *
        generalize B.drop t = B2 at *
        have e7 : IntKind.i64.wrap ((N : Int) - ((P.length + s' : Nat) : Int)) = ((P.length + A.length + t : Nat) : Int) := by rw [wrap_i64 (by omega) (by omega)]; omega
        rw [e7]
        rw [hAs, hBs] at ho81
        have key : ∀ w', OwnK encF 2 w' base T_api_File l (P ++ (mrg ltP A1 B1 ++ (A2 ++ (B2 ++ S)))) → Fr (At l) w76 w' →
            (decide ((mid : Int) < ((P.length + A.length + t : Nat) : Int)) = true → ((decide (((P.length + A.length + t : Nat) : Int) < ((P.length + A.length + B.length : Nat) : Int)) = true →
              Calls Tryz.prog F_slices_symMergeCmpFunc #[.slice l.a l.len l.cap, .int .i64 (mid : Int), .int .i64 ((P.length + A.length + t : Nat) : Int), .int .i64 ((P.length + A.length + B.length : Nat) : Int), .func (.func F_modzip_Hash_1) #[] #[]] w' fun e w2 =>
                e = .returned (.tuple #[]) ∧ (Value.tuple #[] = .tuple #[] ∧ OwnK encF 2 w2 base T_api_File l (P ++ ((mrg ltP A1 B1 ++ mrg ltP A2 B2) ++ S)) ∧ Fr (At l) w76 w2)) ∧
              (decide (((P.length + A.length + t : Nat) : Int) < ((P.length + A.length + B.length : Nat) : Int)) = false → (Value.tuple #[] = .tuple #[] ∧ OwnK encF 2 w' base T_api_File l (P ++ ((mrg ltP A1 B1 ++ mrg ltP A2 B2) ++ S)) ∧ Fr (At l) w76 w')))) ∧
            (decide ((mid : Int) < ((P.length + A.length + t : Nat) : Int)) = false → (Value.tuple #[] = .tuple #[] ∧ OwnK encF 2 w' base T_api_File l (P ++ ((mrg ltP A1 B1 ++ mrg ltP A2 B2) ++ S)) ∧ Fr (At l) w76 w')) := by
          intro w' ho' hf'
          have hml : (mrg ltP A1 B1).length = s' + t := by rw [(mrg_perm ltP _ A1 B1 (Nat.le_refl _)).length_eq, List.length_append]; omega
          refine ⟨fun h => ⟨fun h' => ?_, fun h' => ⟨rfl, ?_, hf'⟩⟩, fun h => ⟨rfl, ?_, hf'⟩⟩
          · have h := of_decide_eq_true h
            have h' := of_decide_eq_true h'
            have hPl : (P ++ mrg ltP A1 B1).length = mid := by rw [List.length_append]; omega
            have := symMerge_hash n (P := P ++ mrg ltP A1 B1) (A := A2) (B := B2) (S := S) (by omega) (by simpa only [List.append_assoc] using ho') (by omega) (by omega) hsA2 hsB2 hs
            rw [hPl, show mid + A2.length = P.length + A.length + t by omega, show P.length + A.length + t + B2.length = P.length + A.length + B.length by omega] at this
            refine this.mono ?_
            rintro e w2 ⟨rfl, ho2, hf2⟩
            exact ⟨rfl, rfl, by simpa only [List.append_assoc] using ho2, hf'.trans hf2 fun q _ h => h⟩
          · have h' := of_decide_eq_false h'
            have : B2 = [] := List.eq_nil_of_length_eq_zero (by omega)
            subst this
            rw [mrg_nil']
            simpa only [List.append_assoc, List.nil_append] using ho'
          · have h := of_decide_eq_false h
            have : A2 = [] := List.eq_nil_of_length_eq_zero (by omega)
            subst this
            rw [mrg_nil]
            simpa only [List.append_assoc, List.nil_append] using ho'
        refine ⟨fun w' => OwnK encF 2 w' base T_api_File l (P ++ (A1 ++ (B1 ++ (A2 ++ (B2 ++ S))))) ∧ Fr (At l) w76 w', ⟨fun h => ⟨fun h' => ?_, fun h' => ⟨?_, hf.mono (by simp)⟩⟩, fun h => ⟨?_, hf.mono (by simp)⟩⟩, ?_⟩
        · have h := of_decide_eq_true h
          have h' := of_decide_eq_true h'
          have := rotate_hash (P := P ++ A1) (X := A2) (Y := B1) (S := B2 ++ S) (by simpa only [List.append_assoc] using ho81) (by omega) (by omega) hs
          rw [List.length_append, hA1l, show P.length + s' + A2.length = P.length + A.length by omega, hB1l] at this
          refine this.mono ?_
          rintro e w97 ⟨rfl, ho97, hf97⟩
          exact ⟨rfl, by simpa only [List.append_assoc] using ho97, (hf.mono (by simp)).trans hf97 fun q _ h => h⟩
        · have h' := of_decide_eq_false h'
          have : B1 = [] := List.eq_nil_of_length_eq_zero (by omega)
          subst this
          simpa only [List.append_assoc, List.nil_append] using ho81
        · have h := of_decide_eq_false h
          have : A2 = [] := List.eq_nil_of_length_eq_zero (by omega)
          subst this
          simpa only [List.append_assoc, List.nil_append] using ho81
        · rintro w98 ⟨ho98, hf98⟩
          refine ⟨fun h => ⟨fun h' => ?_, fun h' => ?_⟩, fun h => ?_⟩
          · have h := of_decide_eq_true h
            have h' := of_decide_eq_true h'
            have := symMerge_hash n (P := P) (A := A1) (B := B1) (S := A2 ++ (B2 ++ S)) (by omega) ho98 (by omega) (by omega) hsA1 hsB1 hs
            rw [hA1l, hB1l, ← ht] at this
            refine this.mono ?_
            rintro e w100 ⟨rfl, ho100, hf100⟩
            exact ⟨rfl, key w100 ho100 (hf98.trans hf100 fun q _ h => h)⟩
          · have h' := of_decide_eq_false h'
            have : B1 = [] := List.eq_nil_of_length_eq_zero (by omega)
            subst this
            refine key w98 ?_ hf98
            rw [mrg_nil']
            simpa only [List.append_assoc, List.nil_append] using ho98
          · have h := of_decide_eq_false h
            have : A1 = [] := List.eq_nil_of_length_eq_zero (by omega)
            subst this
            refine key w98 ?_ hf98
            rw [mrg_nil]
            simpa only [List.append_assoc, List.nil_append] using ho98
end
end Go.Proofs.YtfoeooddnmppnaaGreatDoor

/- slices.SortStableFunc over files, held against one another by Hash's closure. Condition: no more than a hundred thousand files. -/
set_option linter.unusedVariables false
namespace Go.Proofs.YtfoeooddnmppnaaGreatDoor
open Go Vc Go.Proofs StabM

section
variable {w : World} {base : Nat} {l : Sl}
/-- What a stable sort leaves. -/
theorem mrg_srt_hash {A B : List FileE} (hA : Srt ltP A) (hB : Srt ltP B) : Srt ltP (mrg ltP A B) := mrg_sorted ordP.tr ordP.asy _ A B (Nat.le_refl _) hA hB
theorem mrg_prm_hash (A B : List FileE) : (mrg ltP A B).Perm (A ++ B) := mrg_perm ltP _ A B (Nat.le_refl _)
theorem stable_hash {xs : List FileE} (ho : OwnK encF 2 w base T_api_File l xs) (hs : l.len ≤ 100000) :
    Calls Tryz.prog F_slices_SortStableFunc #[.slice l.a l.len l.cap, .func (.func F_modzip_Hash_1) #[] #[]] w fun e w' =>
      e = .returned (.tuple #[]) ∧ ∃ ys : List FileE, OwnK encF 2 w' base T_api_File l ys ∧ ys.Perm xs ∧ Srt ltP ys ∧ (xs.length ≤ 20 → ys = isort ltP xs) ∧ Fr (At l) w w' := by
  obtain ⟨RR, hRR⟩ : ∃ RR : World → Prop, (fun w' => ∃ ys : List FileE, OwnK encF 2 w' base T_api_File l ys ∧ ys.Perm xs ∧ Srt ltP ys ∧ (xs.length ≤ 20 → ys = isort ltP xs) ∧ Fr (At l) w w') = RR := ⟨_, rfl⟩
  refine Calls.mono (R := fun e w' => e = .returned (.tuple #[]) ∧ RR w') ?_ (fun e w' h => by rw [← hRR] at h; exact h)
  refine vc_slices_SortStableFunc_hash_ok (R := fun v w' => v = .tuple #[] ∧ RR w') ?_ (fun v w' h => ⟨by rw [h.1], h.2⟩)
  refine Calls.mono (R := fun e w' => e = .returned (.tuple #[]) ∧ RR w') ?_ (fun e w' h => ⟨h.1, rfl, h.2⟩)
  refine vc_slices_stableCmpFunc_hash_ok (R := fun v w' => v = .tuple #[] ∧ RR w') ?_ (fun v w' h => ⟨by rw [h.1], h.2⟩)
  have hlen := ho.len
  refine ⟨fun a b w' => ∃ P Q : List FileE, OwnK encF 2 w' base T_api_File l (P ++ Q) ∧ (P ++ Q).Perm xs ∧ Fl ltP 20 P ∧ a = (P.length : Int) ∧ b = ((P.length + 20 : Nat) : Int) ∧ (P = [] ∧ Q = xs ∨ 20 ≤ P.length ∧ (P.length = 20 → P = isort ltP (xs.take 20))) ∧ Fr (At l) w w', fun a b _ => 2000000 - b.toNat,
    ⟨[], xs, ho, .refl _, .nil, rfl, rfl, .inl ⟨rfl, rfl⟩, .refl _ _⟩, ?_⟩
  rintro a b w5 ⟨P, Q, ho5, hp5, hfl, rfl, rfl, hc, hf⟩
  have hpl := hp5.length_eq
  have hl5 := ho5.len
  rw [List.length_append] at hpl hl5
  refine ⟨fun hlt => ?_, fun hge => ?_⟩
  · have hlt := of_decide_eq_true hlt
    have hQ : Q = Q.take 20 ++ Q.drop 20 := (List.take_append_drop 20 Q).symm
    have hQl : (Q.take 20).length = 20 := by rw [List.length_take]; omega
    have hc2 : P = [] → Q.take 20 = xs.take 20 := fun h => by
      rcases hc with ⟨_, h2⟩ | ⟨h2, _⟩
      · rw [h2]
      · rw [h] at h2; simp at h2
    generalize Q.take 20 = A at *
    generalize Q.drop 20 = D at *
    rw [hQ] at ho5 hp5 hl5
    have := insertion_hash (P := P) (A := A) (S := D) ho5 (by omega)
    rw [hQl] at this
    refine this.mono ?_
    rintro e w7 ⟨rfl, ho7, hf7⟩
    obtain ⟨hso, hpe⟩ := isort_all ordP.tr ordP.asy _ A rfl
    have hil : (isort ltP A).length = 20 := by rw [hpe.length_eq, hQl]
    have e1 : IntKind.i64.wrap (((P.length + 20 : Nat) : Int) + 20) = ((P.length + 20 + 20 : Nat) : Int) := by rw [wrap_i64 (by omega) (by omega)]; omega
    have hPl : (P ++ isort ltP A).length = P.length + 20 := by rw [List.length_append, hil]
    rw [e1]
    refine ⟨rfl, ⟨P ++ isort ltP A, D, by rw [List.append_assoc]; exact ho7, ?_, .snoc _ _ hfl hil hso, by rw [hPl], by rw [hPl], .inr ⟨by omega, fun h => ?_⟩, hf.trans hf7 fun q _ h => h⟩, by dsimp only; omega⟩
    · refine List.Perm.trans ?_ hp5
      rw [List.append_assoc]
      exact (hpe.append_right D).append_left P
    · have hP0 : P = [] := List.eq_nil_of_length_eq_zero (by omega)
      rw [hP0, List.nil_append, hc2 hP0]
  · have hge := of_decide_eq_false hge
    have hn : (l.len : Int) = ((P.length + Q.length : Nat) : Int) := by omega
    have := insertion_hash (P := P) (A := Q) (S := []) (by simpa using ho5) (by omega)
    rw [← hn] at this
    refine this.mono ?_
    rintro e w9 ⟨rfl, ho9, hf9⟩
    obtain ⟨hso, hpe⟩ := isort_all ordP.tr ordP.asy _ Q rfl
    rw [List.append_nil] at ho9
    have hil : (isort ltP Q).length = Q.length := hpe.length_eq
    refine ⟨rfl, fun b w' => ∃ m : Nat, b = (m : Int) ∧ 20 ≤ m ∧ m ≤ 2 * l.len + 20 ∧ ∃ ys : List FileE, OwnK encF 2 w' base T_api_File l ys ∧ ys.Perm xs ∧ Bl ltP m ys ∧ (xs.length ≤ 20 → ys = isort ltP xs) ∧ Fr (At l) w w', fun b _ => 4000000 - b.toNat,
      ⟨20, rfl, Nat.le_refl _, by omega, P ++ isort ltP Q, ho9, (hpe.append_left P).trans hp5, hfl.bl (.last _ (by omega) hso), fun h => ?_, hf.trans hf9 fun q _ h => h⟩, ?_⟩
    · rcases hc with ⟨h1, h2⟩ | ⟨h1, h2⟩
      · rw [h1, h2, List.nil_append]
      · have hQ0 : Q = [] := List.eq_nil_of_length_eq_zero (by omega)
        rw [hQ0, h2 (by omega), List.take_of_length_le h]
        exact List.append_nil _
    · clear hc hfl hso hpe hil this
      rintro b w13 ⟨m, rfl, hm1, hm2, ys, ho13, hp13, hbl, hst, hf13⟩
      have hyl := hp13.length_eq
      refine ⟨fun hlt => ?_, fun hge => ⟨rfl, ?_⟩⟩
      · have hlt := of_decide_eq_true hlt
        have e2 : IntKind.i64.wrap (2 * (m : Int)) = ((2 * m : Nat) : Int) := by rw [wrap_i64 (by omega) (by omega)]; omega
        have e3 : IntKind.i64.wrap ((m : Int) * 2) = ((2 * m : Nat) : Int) := by rw [wrap_i64 (by omega) (by omega)]; omega
        rw [e2, e3]
        refine ⟨fun a b w' => ∃ P Q : List FileE, OwnK encF 2 w' base T_api_File l (P ++ Q) ∧ (P ++ Q).Perm xs ∧ Fl ltP (2 * m) P ∧ Bl ltP m Q ∧ a = (P.length : Int) ∧ b = ((P.length + 2 * m : Nat) : Int) ∧ Fr (At l) w w', fun a b _ => 2000000 - b.toNat,
          ⟨[], ys, ho13, hp13, .nil, hbl, rfl, by simp, hf13⟩, ?_⟩
        rintro a b w18 ⟨P, Q, ho18, hp18, hfl, hbl, rfl, rfl, hf18⟩
        have hpl := hp18.length_eq
        rw [List.length_append] at hpl
        have e4 : IntKind.i64.wrap ((P.length : Int) + (m : Int)) = ((P.length + m : Nat) : Int) := by rw [wrap_i64 (by omega) (by omega)]; omega
        rw [e4]
        refine ⟨fun hlt2 => ?_, fun hge2 => ⟨fun hlt3 => ?_, fun hge3 => ?_⟩⟩
        · have hlt2 := of_decide_eq_true hlt2
          obtain ⟨A, R, rfl, hAl, hsA, hbR⟩ := hbl.cut (by omega)
          rw [List.length_append] at hpl
          obtain ⟨B, D, rfl, hBl, hsB, hbD⟩ := hbR.cut (by omega)
          rw [List.length_append] at hpl
          have := symMerge_hash _ (P := P) (A := A) (B := B) (S := D) (Nat.le_refl _) ho18 (by omega) (by omega) hsA hsB (by omega)
          rw [hAl, show P.length + m + B.length = P.length + 2 * m by omega] at this
          refine this.mono ?_
          rintro e w20 ⟨rfl, ho20, hf20⟩
          have hml : (mrg ltP A B).length = 2 * m := by rw [(mrg_prm_hash A B).length_eq, List.length_append]; omega
          have e5 : IntKind.i64.wrap (((P.length + 2 * m : Nat) : Int) + ((2 * m : Nat) : Int)) = ((P.length + 2 * m + 2 * m : Nat) : Int) := by rw [wrap_i64 (by omega) (by omega)]; omega
          rw [e5]
          have hPl : (P ++ mrg ltP A B).length = P.length + 2 * m := by rw [List.length_append, hml]
          refine ⟨rfl, ⟨P ++ mrg ltP A B, D, by rw [List.append_assoc]; exact ho20, ?_, .snoc _ _ hfl hml (mrg_srt_hash hsA hsB), hbD, by rw [hPl], by rw [hPl], hf18.trans hf20 fun q _ h => h⟩, by dsimp only; omega⟩
          refine List.Perm.trans ?_ hp18
          rw [List.append_assoc, ← List.append_assoc A]
          exact ((mrg_prm_hash A B).append_right D).append_left P
        · have hge2 := of_decide_eq_false hge2
          have hlt3 := of_decide_eq_true hlt3
          obtain ⟨A, R, rfl, hAl, hsA, hbR⟩ := hbl.cut (by omega)
          rw [List.length_append] at hpl
          have hsR := hbR.short (by omega)
          have := symMerge_hash _ (P := P) (A := A) (B := R) (S := []) (Nat.le_refl _) (by simpa using ho18) (by omega) (by omega) hsA hsR (by omega)
          rw [hAl, show P.length + m + R.length = l.len by omega] at this
          refine this.mono ?_
          rintro e w22 ⟨rfl, ho22, hf22⟩
          rw [List.append_nil] at ho22
          have hml : (mrg ltP A R).length = m + R.length := by rw [(mrg_prm_hash A R).length_eq, List.length_append]; omega
          exact ⟨rfl, ⟨2 * m, rfl, by omega, by omega, P ++ mrg ltP A R, ho22, ((mrg_prm_hash A R).append_left P).trans hp18, hfl.bl (.last _ (by omega) (mrg_srt_hash hsA hsR)), fun h => by omega, hf18.trans hf22 fun q _ h => h⟩, by dsimp only; omega⟩
        · have hge2 := of_decide_eq_false hge2
          have hge3 := of_decide_eq_false hge3
          have hsQ := hbl.short (by omega)
          exact ⟨⟨2 * m, rfl, by omega, by omega, P ++ Q, ho18, hp18, hfl.bl (.last _ (by omega) hsQ), fun h => by omega, hf18⟩, by dsimp only; omega⟩
      · have hge := of_decide_eq_false hge
        rw [← hRR]
        exact ⟨ys, ho13, hp13, hbl.short (by omega), hst, hf13⟩
end
end Go.Proofs.YtfoeooddnmppnaaGreatDoor

/- SHA-1 and SHA-256 on lists. -/
set_option linter.unusedVariables false
namespace ShaM
abbrev W := BitVec 32
def rotl (x : W) (n : Nat) : W := (x <<< n) ||| (x >>> (32 - n))
/-- Four bytes from number i on as a word, the highest first. -/
def be (p : List UInt8) (i : Nat) : W := BitVec.ofNat 32 ((p.getD i 0).toNat * 16777216 + (p.getD (i + 1) 0).toNat * 65536 + (p.getD (i + 2) 0).toNat * 256 + (p.getD (i + 3) 0).toNat)
def words (p : List UInt8) : List W := (List.range 16).map fun i => be p (4 * i)
def ext1 : Nat → List W → List W
  | 0, w => w
  | n + 1, w => ext1 n (w ++ [rotl (w.getD (w.length - 3) 0 ^^^ w.getD (w.length - 8) 0 ^^^ w.getD (w.length - 14) 0 ^^^ w.getD (w.length - 16) 0) 1])
def f1 (i : Nat) (b c d : W) : W := if i < 20 then (b &&& c) ||| (~~~b &&& d) else if i < 40 then b ^^^ c ^^^ d else if i < 60 then (b &&& c) ||| (b &&& d) ||| (c &&& d) else b ^^^ c ^^^ d
def k1 (i : Nat) : W := if i < 20 then 0x5a827999#32 else if i < 40 then 0x6ed9eba1#32 else if i < 60 then 0x8f1bbcdc#32 else 0xca62c1d6#32
/-- One round. -/
def rd1 (i : Nat) (x : W) : List W → List W
  | [a, b, c, d, e] => [rotl a 5 + f1 i b c d + e + k1 i + x, a, rotl b 30, c, d]
  | v => v
def rds1 : Nat → List W → List W → List W
  | _, [], v => v
  | i, x :: r, v => rds1 (i + 1) r (rd1 i x v)
def adds : List W → List W → List W
  | a :: h, b :: v => (a + b) :: adds h v
  | _, _ => []
def block1 (h : List W) (p : List UInt8) : List W := adds h (rds1 0 (ext1 64 (words p)) h)
def blocks (f : List W → List UInt8 → List W) : Nat → List W → List UInt8 → List W
  | 0, h, _ => h
  | n + 1, h, t => blocks f n (f h (t.take 64)) (t.drop 64)
def pad (t : List UInt8) : List UInt8 := t ++ 0x80 :: List.replicate ((119 - t.length % 64) % 64) 0 ++ (List.range 8).map fun i => UInt8.ofNat (t.length * 8 / 2 ^ (56 - 8 * i))
def outw (x : W) : List UInt8 := [UInt8.ofNat (x.toNat / 16777216), UInt8.ofNat (x.toNat / 65536), UInt8.ofNat (x.toNat / 256), UInt8.ofNat x.toNat]
def out (h : List W) : List UInt8 := h.flatMap outw
def start1 : List W := [0x67452301#32, 0xefcdab89#32, 0x98badcfe#32, 0x10325476#32, 0xc3d2e1f0#32]
def sha1 (t : List UInt8) : List UInt8 := out (blocks block1 ((pad t).length / 64) start1 (pad t))

def ext2 : Nat → List W → List W
  | 0, w => w
  | n + 1, w =>
    let x := w.getD (w.length - 15) 0
    let y := w.getD (w.length - 2) 0
    ext2 n (w ++ [w.getD (w.length - 16) 0 + (rotl x 25 ^^^ rotl x 14 ^^^ x >>> 3) + w.getD (w.length - 7) 0 + (rotl y 15 ^^^ rotl y 13 ^^^ y >>> 10)])
def rd2 (k w : W) : List W → List W
  | [a, b, c, d, e, f, g, h] =>
    let x := h + (rotl e 26 ^^^ rotl e 21 ^^^ rotl e 7) + ((e &&& f) ^^^ (~~~e &&& g)) + k + w
    let y := (rotl a 30 ^^^ rotl a 19 ^^^ rotl a 10) + ((a &&& b) ^^^ (a &&& c) ^^^ (b &&& c))
    [x + y, a, b, c, d + x, e, f, g]
  | v => v
def rds2 : List W → List W → List W → List W
  | k :: ks, x :: xs, v => rds2 ks xs (rd2 k x v)
  | _, _, v => v
def block2 (K : List W) (h : List W) (p : List UInt8) : List W := adds h (rds2 K (ext2 48 (words p)) h)
def start2 : List W := [0x6a09e667#32, 0xbb67ae85#32, 0x3c6ef372#32, 0xa54ff53a#32, 0x510e527f#32, 0x9b05688c#32, 0x1f83d9ab#32, 0x5be0cd19#32]
end ShaM
namespace ShaM
def nxt1 (w : List W) : W := rotl (w.getD (w.length - 3) 0 ^^^ w.getD (w.length - 8) 0 ^^^ w.getD (w.length - 14) 0 ^^^ w.getD (w.length - 16) 0) 1
theorem ext1_snoc : ∀ (n : Nat) (w : List W), ext1 (n + 1) w = ext1 n w ++ [nxt1 (ext1 n w)]
  | 0, w => rfl
  | n + 1, w => by
    show ext1 (n + 1) (w ++ [nxt1 w]) = _
    rw [ext1_snoc n]
    rfl
theorem ext1_length : ∀ (n : Nat) (w : List W), (ext1 n w).length = w.length + n
  | 0, w => rfl
  | n + 1, w => by
    show (ext1 n (w ++ [nxt1 w])).length = _
    rw [ext1_length n, List.length_append, List.length_singleton]; omega
def nxt2 (w : List W) : W :=
  let x := w.getD (w.length - 15) 0
  let y := w.getD (w.length - 2) 0
  w.getD (w.length - 16) 0 + (rotl x 25 ^^^ rotl x 14 ^^^ x >>> 3) + w.getD (w.length - 7) 0 + (rotl y 15 ^^^ rotl y 13 ^^^ y >>> 10)
theorem ext2_snoc : ∀ (n : Nat) (w : List W), ext2 (n + 1) w = ext2 n w ++ [nxt2 (ext2 n w)]
  | 0, w => rfl
  | n + 1, w => by
    show ext2 (n + 1) (w ++ [nxt2 w]) = _
    rw [ext2_snoc n]
    rfl
theorem ext2_length : ∀ (n : Nat) (w : List W), (ext2 n w).length = w.length + n
  | 0, w => rfl
  | n + 1, w => by
    show (ext2 n (w ++ [nxt2 w])).length = _
    rw [ext2_length n, List.length_append, List.length_singleton]; omega
theorem words_length (p : List UInt8) : (words p).length = 16 := by simp [words]
theorem words_take (p : List UInt8) {k : Nat} (h : k < 16) : (words p).take (k + 1) = (words p).take k ++ [be p (4 * k)] := by
  have hl : k < (words p).length := by rw [words_length]; exact h
  rw [List.take_succ_eq_append_getElem hl]
  simp [words]
/-- The first k words of a schedule. -/
def E1 (p : List UInt8) (k : Nat) : List W := if k ≤ 16 then (words p).take k else ext1 (k - 16) (words p)
def E2 (p : List UInt8) (k : Nat) : List W := if k ≤ 16 then (words p).take k else ext2 (k - 16) (words p)
theorem E1_length (p : List UInt8) (k : Nat) : (E1 p k).length = k := by
  unfold E1
  split
  · rw [List.length_take, words_length]; omega
  · rw [ext1_length, words_length]; omega
theorem E2_length (p : List UInt8) (k : Nat) : (E2 p k).length = k := by
  unfold E2
  split
  · rw [List.length_take, words_length]; omega
  · rw [ext2_length, words_length]; omega
theorem E1_low (p : List UInt8) {k : Nat} (h : k < 16) : E1 p (k + 1) = E1 p k ++ [be p (4 * k)] := by
  unfold E1; rw [if_pos (by omega), if_pos (by omega), words_take p h]
theorem E2_low (p : List UInt8) {k : Nat} (h : k < 16) : E2 p (k + 1) = E2 p k ++ [be p (4 * k)] := by
  unfold E2; rw [if_pos (by omega), if_pos (by omega), words_take p h]
theorem E1_ext (p : List UInt8) {k : Nat} (h : 16 ≤ k) : E1 p k = ext1 (k - 16) (words p) := by
  unfold E1
  split
  · have : k = 16 := by omega
    subst this
    rw [List.take_of_length_le (by rw [words_length]; omega)]; rfl
  · rfl
theorem E2_ext (p : List UInt8) {k : Nat} (h : 16 ≤ k) : E2 p k = ext2 (k - 16) (words p) := by
  unfold E2
  split
  · have : k = 16 := by omega
    subst this
    rw [List.take_of_length_le (by rw [words_length]; omega)]; rfl
  · rfl
theorem E1_high (p : List UInt8) {k : Nat} (h : 16 ≤ k) : E1 p (k + 1) = E1 p k ++ [nxt1 (E1 p k)] := by
  rw [E1_ext p h, E1_ext p (by omega), show k + 1 - 16 = (k - 16) + 1 by omega, ext1_snoc]
theorem E2_high (p : List UInt8) {k : Nat} (h : 16 ≤ k) : E2 p (k + 1) = E2 p k ++ [nxt2 (E2 p k)] := by
  rw [E2_ext p h, E2_ext p (by omega), show k + 1 - 16 = (k - 16) + 1 by omega, ext2_snoc]
theorem nxt1_at {w : List W} {k : Nat} (h : w.length = k) : nxt1 w = rotl (w.getD (k - 3) 0 ^^^ w.getD (k - 8) 0 ^^^ w.getD (k - 14) 0 ^^^ w.getD (k - 16) 0) 1 := by unfold nxt1; rw [h]
theorem nxt2_at {w : List W} {k : Nat} (h : w.length = k) : nxt2 w = w.getD (k - 16) 0 + (rotl (w.getD (k - 15) 0) 25 ^^^ rotl (w.getD (k - 15) 0) 14 ^^^ w.getD (k - 15) 0 >>> 3) + w.getD (k - 7) 0 + (rotl (w.getD (k - 2) 0) 15 ^^^ rotl (w.getD (k - 2) 0) 13 ^^^ w.getD (k - 2) 0 >>> 10) := by
  unfold nxt2; rw [h]
theorem rds1_step {i : Nat} {l v : List W} (h : i < l.length) : rds1 i (l.drop i) v = rds1 (i + 1) (l.drop (i + 1)) (rd1 i (l.getD i 0) v) := by
  rw [List.drop_eq_getElem_cons h]
  simp [rds1, h]
end ShaM

/- Plain facts on bits of a text, the lowest of each byte first. -/
set_option linter.unusedVariables false
namespace BitsM
open Vc
/-- The first n bytes as a number, the first the lowest. -/
def V (s : ByteArray) : Nat → Nat
  | 0 => 0
  | n + 1 => V s n + byt s n * 2 ^ (8 * n)
theorem V_lt (s : ByteArray) : ∀ n, V s n < 2 ^ (8 * n)
  | 0 => by simp [V]
  | n + 1 => by
    have h := V_lt s n
    have hb := byt_lt s n
    have e : 2 ^ (8 * (n + 1)) = 256 * 2 ^ (8 * n) := by rw [Nat.mul_succ, Nat.pow_add]; omega
    have : byt s n * 2 ^ (8 * n) ≤ 255 * 2 ^ (8 * n) := Nat.mul_le_mul_right _ (by omega)
    simp only [V]; omega
/-- What is held: the bits from pos on of the first n bytes. -/
def held (s : ByteArray) (n pos : Nat) : Nat := V s n / 2 ^ pos
theorem held_lt (s : ByteArray) (n pos : Nat) (h : pos ≤ 8 * n) : held s n pos < 2 ^ (8 * n - pos) := by
  unfold held
  rw [Nat.div_lt_iff_lt_mul (Nat.two_pow_pos _), ← Nat.pow_add, Nat.sub_add_cancel h]
  exact V_lt s n
theorem held_succ (s : ByteArray) (n pos : Nat) (h : pos ≤ 8 * n) : held s (n + 1) pos = held s n pos + byt s n * 2 ^ (8 * n - pos) := by
  unfold held
  have e : 2 ^ (8 * n) = 2 ^ (8 * n - pos) * 2 ^ pos := by rw [← Nat.pow_add, Nat.sub_add_cancel h]
  simp only [V]
  rw [e, ← Nat.mul_assoc, Nat.add_mul_div_right _ _ (Nat.two_pow_pos _)]
theorem held_or (s : ByteArray) (n pos : Nat) (h : pos ≤ 8 * n) : held s n pos ||| byt s n * 2 ^ (8 * n - pos) = held s (n + 1) pos := by
  rw [held_succ s n pos h, Nat.or_comm, Nat.mul_comm, Nat.add_comm, ← Nat.two_pow_add_eq_or_of_lt (held_lt s n pos h)]
theorem held_skip (s : ByteArray) (n pos k : Nat) : held s n pos / 2 ^ k = held s n (pos + k) := by
  unfold held; rw [Nat.div_div_eq_div_mul, ← Nat.pow_add]
/-- The next k bits of the whole text, from pos on. -/
def nbits (s : ByteArray) (pos k : Nat) : Nat := V s s.size / 2 ^ pos % 2 ^ k
theorem V_split (s : ByteArray) (n : Nat) : ∀ d, ∃ q, V s (n + d) = V s n + q * 2 ^ (8 * n)
  | 0 => ⟨0, by simp⟩
  | d + 1 => by
    obtain ⟨q, hq⟩ := V_split s n d
    refine ⟨q + byt s (n + d) * 2 ^ (8 * d), ?_⟩
    show V s (n + d) + byt s (n + d) * 2 ^ (8 * (n + d)) = _
    rw [hq, Nat.add_mul, Nat.mul_assoc, ← Nat.pow_add]
    have : 8 * d + 8 * n = 8 * (n + d) := by omega
    rw [this]; omega
theorem held_bits (s : ByteArray) (n pos k : Nat) (hn : n ≤ s.size) (h : pos + k ≤ 8 * n ∨ n = s.size) : held s n pos % 2 ^ k = nbits s pos k := by
  rcases h with h | rfl
  · unfold held nbits
    obtain ⟨q, hq⟩ := V_split s n (s.size - n)
    rw [Nat.add_sub_cancel' hn] at hq
    rw [hq]
    have e : 2 ^ (8 * n) = 2 ^ (8 * n - pos - k) * 2 ^ k * 2 ^ pos := by
      rw [← Nat.pow_add, ← Nat.pow_add]; congr 1; omega
    rw [e, ← Nat.mul_assoc, ← Nat.mul_assoc, Nat.add_mul_div_right _ _ (Nat.two_pow_pos _)]
    rw [Nat.add_mul_mod_self_right]
  · rfl
theorem and_mask (x k : Nat) : x &&& (2 ^ k - 1) = x % 2 ^ k := Nat.and_two_pow_sub_one_eq_mod x k
end BitsM

/- Formulas of 10 Go functions of this seat (written by a program of the author's, vcgen.py), and that each is enough for the call. No condition. -/
set_option linter.unusedVariables false
namespace Go.Proofs.YtfoeooddnmppnaaGreatDoor
open Go Vc Go.Proofs
set_option maxRecDepth 100000
/-- sha.word -/
def vc_sha_word (x0 : ByteArray) (w : World) (R : Value → World → Prop) : Prop :=
  (((0 : Int) ≤ (0 : Int) ∧
    0 < (↑(ByteArray.size x0) : Int)) ∧
   ((0 : Int) ≤ (24 : Int) ∧
    (((0 : Int) ≤ (1 : Int) ∧
      1 < (↑(ByteArray.size x0) : Int)) ∧
     ((0 : Int) ≤ (16 : Int) ∧
      (((0 : Int) ≤ (2 : Int) ∧
        2 < (↑(ByteArray.size x0) : Int)) ∧
       ((0 : Int) ≤ (8 : Int) ∧
        (((0 : Int) ≤ (3 : Int) ∧
          3 < (↑(ByteArray.size x0) : Int)) ∧
         ∀ w1 : World,
         (Drew w w1 →
           R (Value.int IntKind.u32 (IntKind.wrap IntKind.u32 (↑(BitVec.toNat (BitVec.ofInt 32 (IntKind.wrap IntKind.u32 (↑(BitVec.toNat (BitVec.ofInt 32 (IntKind.wrap IntKind.u32 (↑(BitVec.toNat (BitVec.ofInt 32 (IntKind.wrap IntKind.u32 (IntKind.wrap IntKind.u32 (byteAt x0 0) * 2 ^ min (Int.toNat 24) 32)) ||| BitVec.ofInt 32 (IntKind.wrap IntKind.u32 (IntKind.wrap IntKind.u32 (byteAt x0 1) * 2 ^ min (Int.toNat 16) 32)))) : Int)) ||| BitVec.ofInt 32 (IntKind.wrap IntKind.u32 (IntKind.wrap IntKind.u32 (byteAt x0 2) * 2 ^ min (Int.toNat 8) 32)))) : Int)) ||| BitVec.ofInt 32 (IntKind.wrap IntKind.u32 (byteAt x0 3)))) : Int))) w1))))))))
theorem vc_sha_word_ok {x0 : ByteArray} {w : World} {R : Value → World → Prop} {R' : Ending → World → Prop} (h : vc_sha_word x0 w R) (hR : ∀ v w', R v w' → R' (.returned v) w') :
    Calls Tryz.prog 75 #[.string x0] w R' :=
  calls_of_body (vs := [(.string x0, false)]) (ty := ty) (ann := ⟨[], [], [(1, .quiet)], []⟩) (c := Tryz.f75.body.getD .skip) (by kernel_rfl) Tryz.func75 (by kernel_rfl) (by kernel_rfl) (Eq.mp (by kernel_rfl) h) hR
/-- math/bits.RotateLeft32 -/
def vc_bits_RotateLeft32 (x0 : Int) (x1 : Int) (w : World) (R : Value → World → Prop) : Prop :=
  (0 ≤ IntKind.wrap IntKind.u64 (↑(BitVec.toNat (BitVec.ofInt 64 (IntKind.wrap IntKind.u64 x1) &&& BitVec.ofInt 64 31)) : Int) ∧
   (0 ≤ IntKind.wrap IntKind.u64 (32 - IntKind.wrap IntKind.u64 (↑(BitVec.toNat (BitVec.ofInt 64 (IntKind.wrap IntKind.u64 x1) &&& BitVec.ofInt 64 31)) : Int)) ∧
    R (Value.int IntKind.u32 (IntKind.wrap IntKind.u32 (↑(BitVec.toNat (BitVec.ofInt 32 (IntKind.wrap IntKind.u32 (x0 * 2 ^ min (Int.toNat (IntKind.wrap IntKind.u64 (↑(BitVec.toNat (BitVec.ofInt 64 (IntKind.wrap IntKind.u64 x1) &&& BitVec.ofInt 64 31)) : Int))) 32)) ||| BitVec.ofInt 32 (Int.fdiv x0 (2 ^ min (Int.toNat (IntKind.wrap IntKind.u64 (32 - IntKind.wrap IntKind.u64 (↑(BitVec.toNat (BitVec.ofInt 64 (IntKind.wrap IntKind.u64 x1) &&& BitVec.ofInt 64 31)) : Int)))) 32)))) : Int))) w))
theorem vc_bits_RotateLeft32_ok {x0 : Int} {x1 : Int} {w : World} {R : Value → World → Prop} {R' : Ending → World → Prop} (h : vc_bits_RotateLeft32 x0 x1 w R) (hR : ∀ v w', R v w' → R' (.returned v) w') :
    Calls Tryz.prog 76 #[.int .u32 x0, .int .i64 x1] w R' :=
  calls_of_body (vs := [(.int .u32 x0, false), (.int .i64 x1, false)]) (ty := ty) (ann := ⟨[], [], [], []⟩) (c := Tryz.f76.body.getD .skip) (by kernel_rfl) Tryz.func76 (by kernel_rfl) (by kernel_rfl) (Eq.mp (by kernel_rfl) h) hR
/-- sha.start256 -/
def vc_sha_start256 (w : World) (R : Value → World → Prop) : Prop :=
  ∀ w1 : World,
  (w1 = World.alloc w (Obj.cells (Array.mk [Value.int IntKind.u32 1779033703, Value.int IntKind.u32 3144134277, Value.int IntKind.u32 1013904242, Value.int IntKind.u32 2773480762, Value.int IntKind.u32 1359893119, Value.int IntKind.u32 2600822924, Value.int IntKind.u32 528734635, Value.int IntKind.u32 1541459225]) 74) →
    R (Value.slice (some (Addr.mk (Array.size (World.heap w)) 0 none)) 8 8) w1)
theorem vc_sha_start256_ok {w : World} {R : Value → World → Prop} {R' : Ending → World → Prop} (h : vc_sha_start256 w R) (hR : ∀ v w', R v w' → R' (.returned v) w') :
    Calls Tryz.prog 51 #[] w R' :=
  calls_of_body (vs := []) (ty := ty) (ann := ⟨[], [], [], []⟩) (c := Tryz.f51.body.getD .skip) (by kernel_rfl) Tryz.func51 (by kernel_rfl) (by kernel_rfl) (Eq.mp (by kernel_rfl) h) hR
/-- sha.table256 -/
def vc_sha_table256 (w : World) (R : Value → World → Prop) : Prop :=
  ∀ w1 : World,
  (w1 = World.alloc w (Obj.cells (Array.mk [Value.int IntKind.u32 0, Value.int IntKind.u32 0, Value.int IntKind.u32 0, Value.int IntKind.u32 0, Value.int IntKind.u32 0, Value.int IntKind.u32 0, Value.int IntKind.u32 0, Value.int IntKind.u32 0, Value.int IntKind.u32 0, Value.int IntKind.u32 0, Value.int IntKind.u32 0, Value.int IntKind.u32 0, Value.int IntKind.u32 0, Value.int IntKind.u32 0, Value.int IntKind.u32 0, Value.int IntKind.u32 0, Value.int IntKind.u32 0, Value.int IntKind.u32 0, Value.int IntKind.u32 0, Value.int IntKind.u32 0, Value.int IntKind.u32 0, Value.int IntKind.u32 0, Value.int IntKind.u32 0, Value.int IntKind.u32 0, Value.int IntKind.u32 0, Value.int IntKind.u32 0, Value.int IntKind.u32 0, Value.int IntKind.u32 0, Value.int IntKind.u32 0, Value.int IntKind.u32 0, Value.int IntKind.u32 0, Value.int IntKind.u32 0, Value.int IntKind.u32 0, Value.int IntKind.u32 0, Value.int IntKind.u32 0, Value.int IntKind.u32 0, Value.int IntKind.u32 0, Value.int IntKind.u32 0, Value.int IntKind.u32 0, Value.int IntKind.u32 0, Value.int IntKind.u32 0, Value.int IntKind.u32 0, Value.int IntKind.u32 0, Value.int IntKind.u32 0, Value.int IntKind.u32 0, Value.int IntKind.u32 0, Value.int IntKind.u32 0, Value.int IntKind.u32 0, Value.int IntKind.u32 0, Value.int IntKind.u32 0, Value.int IntKind.u32 0, Value.int IntKind.u32 0, Value.int IntKind.u32 0, Value.int IntKind.u32 0, Value.int IntKind.u32 0, Value.int IntKind.u32 0, Value.int IntKind.u32 0, Value.int IntKind.u32 0, Value.int IntKind.u32 0, Value.int IntKind.u32 0, Value.int IntKind.u32 0, Value.int IntKind.u32 0, Value.int IntKind.u32 0, Value.int IntKind.u32 0]) 108) →
    ∃ w2 : World, (Sem.run Tryz.prog (storeVar 108 (Addr.mk (Array.size (World.heap w)) 0 none) (Value.agg (Array.mk [Value.int IntKind.u32 1116352408, Value.int IntKind.u32 1899447441, Value.int IntKind.u32 3049323471, Value.int IntKind.u32 3921009573, Value.int IntKind.u32 961987163, Value.int IntKind.u32 1508970993, Value.int IntKind.u32 2453635748, Value.int IntKind.u32 2870763221, Value.int IntKind.u32 3624381080, Value.int IntKind.u32 310598401, Value.int IntKind.u32 607225278, Value.int IntKind.u32 1426881987, Value.int IntKind.u32 1925078388, Value.int IntKind.u32 2162078206, Value.int IntKind.u32 2614888103, Value.int IntKind.u32 3248222580, Value.int IntKind.u32 3835390401, Value.int IntKind.u32 4022224774, Value.int IntKind.u32 264347078, Value.int IntKind.u32 604807628, Value.int IntKind.u32 770255983, Value.int IntKind.u32 1249150122, Value.int IntKind.u32 1555081692, Value.int IntKind.u32 1996064986, Value.int IntKind.u32 2554220882, Value.int IntKind.u32 2821834349, Value.int IntKind.u32 2952996808, Value.int IntKind.u32 3210313671, Value.int IntKind.u32 3336571891, Value.int IntKind.u32 3584528711, Value.int IntKind.u32 113926993, Value.int IntKind.u32 338241895, Value.int IntKind.u32 666307205, Value.int IntKind.u32 773529912, Value.int IntKind.u32 1294757372, Value.int IntKind.u32 1396182291, Value.int IntKind.u32 1695183700, Value.int IntKind.u32 1986661051, Value.int IntKind.u32 2177026350, Value.int IntKind.u32 2456956037, Value.int IntKind.u32 2730485921, Value.int IntKind.u32 2820302411, Value.int IntKind.u32 3259730800, Value.int IntKind.u32 3345764771, Value.int IntKind.u32 3516065817, Value.int IntKind.u32 3600352804, Value.int IntKind.u32 4094571909, Value.int IntKind.u32 275423344, Value.int IntKind.u32 430227734, Value.int IntKind.u32 506948616, Value.int IntKind.u32 659060556, Value.int IntKind.u32 883997877, Value.int IntKind.u32 958139571, Value.int IntKind.u32 1322822218, Value.int IntKind.u32 1537002063, Value.int IntKind.u32 1747873779, Value.int IntKind.u32 1955562222, Value.int IntKind.u32 2024104815, Value.int IntKind.u32 2227730452, Value.int IntKind.u32 2361852424, Value.int IntKind.u32 2428436474, Value.int IntKind.u32 2756734187, Value.int IntKind.u32 3204031479, Value.int IntKind.u32 3329325298]))) w1 = Result.ok PUnit.unit w2 ∧
     ∃ v3 : Value, (Sem.run Tryz.prog (loadVar 108 (Addr.mk (Array.size (World.heap w)) 0 none)) w2 = Result.ok v3 w2 ∧
      R v3 w2)))
theorem vc_sha_table256_ok {w : World} {R : Value → World → Prop} {R' : Ending → World → Prop} (h : vc_sha_table256 w R) (hR : ∀ v w', R v w' → R' (.returned v) w') :
    Calls Tryz.prog 74 #[] w R' :=
  calls_of_body (vs := []) (ty := ty) (ann := ⟨[], [], [], []⟩) (c := Tryz.f74.body.getD .skip) (by kernel_rfl) Tryz.func74 (by kernel_rfl) (by kernel_rfl) (Eq.mp (by kernel_rfl) h) hR
/-- sha.block256 -/
def vc_sha_block256 (x0a : Option Addr) (x0n : Nat) (x0c : Nat) (x1 : ByteArray) (w : World) (R : Value → World → Prop) : Prop :=
  ∀ w1 : World,
  (w1 = World.alloc w (Obj.cells (Array.mk [Value.int IntKind.u32 0, Value.int IntKind.u32 0, Value.int IntKind.u32 0, Value.int IntKind.u32 0, Value.int IntKind.u32 0, Value.int IntKind.u32 0, Value.int IntKind.u32 0, Value.int IntKind.u32 0, Value.int IntKind.u32 0, Value.int IntKind.u32 0, Value.int IntKind.u32 0, Value.int IntKind.u32 0, Value.int IntKind.u32 0, Value.int IntKind.u32 0, Value.int IntKind.u32 0, Value.int IntKind.u32 0, Value.int IntKind.u32 0, Value.int IntKind.u32 0, Value.int IntKind.u32 0, Value.int IntKind.u32 0, Value.int IntKind.u32 0, Value.int IntKind.u32 0, Value.int IntKind.u32 0, Value.int IntKind.u32 0, Value.int IntKind.u32 0, Value.int IntKind.u32 0, Value.int IntKind.u32 0, Value.int IntKind.u32 0, Value.int IntKind.u32 0, Value.int IntKind.u32 0, Value.int IntKind.u32 0, Value.int IntKind.u32 0, Value.int IntKind.u32 0, Value.int IntKind.u32 0, Value.int IntKind.u32 0, Value.int IntKind.u32 0, Value.int IntKind.u32 0, Value.int IntKind.u32 0, Value.int IntKind.u32 0, Value.int IntKind.u32 0, Value.int IntKind.u32 0, Value.int IntKind.u32 0, Value.int IntKind.u32 0, Value.int IntKind.u32 0, Value.int IntKind.u32 0, Value.int IntKind.u32 0, Value.int IntKind.u32 0, Value.int IntKind.u32 0, Value.int IntKind.u32 0, Value.int IntKind.u32 0, Value.int IntKind.u32 0, Value.int IntKind.u32 0, Value.int IntKind.u32 0, Value.int IntKind.u32 0, Value.int IntKind.u32 0, Value.int IntKind.u32 0, Value.int IntKind.u32 0, Value.int IntKind.u32 0, Value.int IntKind.u32 0, Value.int IntKind.u32 0, Value.int IntKind.u32 0, Value.int IntKind.u32 0, Value.int IntKind.u32 0, Value.int IntKind.u32 0]) 108) →
    Calls Tryz.prog (74 : Nat) (Array.mk []) (w1) (fun e2 w3 =>
      ∃ v4 : Value, (e2 = Ending.returned v4 ∧
       ∀ w5 : World,
       (w5 = World.alloc w3 (Obj.cells (Array.mk [Value.int IntKind.u32 0, Value.int IntKind.u32 0, Value.int IntKind.u32 0, Value.int IntKind.u32 0, Value.int IntKind.u32 0, Value.int IntKind.u32 0, Value.int IntKind.u32 0, Value.int IntKind.u32 0, Value.int IntKind.u32 0, Value.int IntKind.u32 0, Value.int IntKind.u32 0, Value.int IntKind.u32 0, Value.int IntKind.u32 0, Value.int IntKind.u32 0, Value.int IntKind.u32 0, Value.int IntKind.u32 0, Value.int IntKind.u32 0, Value.int IntKind.u32 0, Value.int IntKind.u32 0, Value.int IntKind.u32 0, Value.int IntKind.u32 0, Value.int IntKind.u32 0, Value.int IntKind.u32 0, Value.int IntKind.u32 0, Value.int IntKind.u32 0, Value.int IntKind.u32 0, Value.int IntKind.u32 0, Value.int IntKind.u32 0, Value.int IntKind.u32 0, Value.int IntKind.u32 0, Value.int IntKind.u32 0, Value.int IntKind.u32 0, Value.int IntKind.u32 0, Value.int IntKind.u32 0, Value.int IntKind.u32 0, Value.int IntKind.u32 0, Value.int IntKind.u32 0, Value.int IntKind.u32 0, Value.int IntKind.u32 0, Value.int IntKind.u32 0, Value.int IntKind.u32 0, Value.int IntKind.u32 0, Value.int IntKind.u32 0, Value.int IntKind.u32 0, Value.int IntKind.u32 0, Value.int IntKind.u32 0, Value.int IntKind.u32 0, Value.int IntKind.u32 0, Value.int IntKind.u32 0, Value.int IntKind.u32 0, Value.int IntKind.u32 0, Value.int IntKind.u32 0, Value.int IntKind.u32 0, Value.int IntKind.u32 0, Value.int IntKind.u32 0, Value.int IntKind.u32 0, Value.int IntKind.u32 0, Value.int IntKind.u32 0, Value.int IntKind.u32 0, Value.int IntKind.u32 0, Value.int IntKind.u32 0, Value.int IntKind.u32 0, Value.int IntKind.u32 0, Value.int IntKind.u32 0]) 108) →
         ∃ w6 : World, (Sem.run Tryz.prog (storeVar 108 (Addr.mk (Array.size (World.heap w3)) 0 none) v4) w5 = Result.ok PUnit.unit w6 ∧
          ∃ I7 : Int → World → Prop, ∃ I8 : Int → World → Nat, (I7 0 w6 ∧
           ∀ n9 : Int,
           ∀ w10 : World,
           (I7 n9 w10 →
             (((decide (n9 < 64) = true →
                (((decide (n9 < 16) = true →
                   ((0 ≤ IntKind.wrap IntKind.i64 (4 * n9) ∧
                     IntKind.wrap IntKind.i64 (4 * n9) ≤ (↑(ByteArray.size x1) : Int)) ∧
                    Calls Tryz.prog (75 : Nat) (Array.mk [Value.string (ByteArray.extract x1 (Int.toNat (IntKind.wrap IntKind.i64 (4 * n9))) (ByteArray.size x1))]) (w10) (fun e11 w12 =>
                      ∃ n13 : Int, (e11 = Ending.returned (Value.int IntKind.u32 n13) ∧
                       ((0 ≤ n9 ∧
                         n9 < (↑64 : Int)) ∧
                        (Wr w12 (Addr.add (Addr.mk (Array.size (World.heap w)) 0 none) (Int.toNat n9 * 1)) ∧
                         ∀ w14 : World,
                         (w14 = World.setCell w12 (Addr.add (Addr.mk (Array.size (World.heap w)) 0 none) (Int.toNat n9 * 1)) (Value.int IntKind.u32 n13) →
                           (I7 (IntKind.wrap IntKind.i64 (n9 + 1)) w14 ∧
                            I8 (IntKind.wrap IntKind.i64 (n9 + 1)) w14 < I8 n9 w10))))))))) ∧
                 (decide (n9 < 16) = false →
                   ((0 ≤ IntKind.wrap IntKind.i64 (n9 - 15) ∧
                     IntKind.wrap IntKind.i64 (n9 - 15) < (↑64 : Int)) ∧
                    ∃ n15 : Int, (World.cell? w10 (Addr.add (Addr.mk (Array.size (World.heap w)) 0 none) (Int.toNat (IntKind.wrap IntKind.i64 (n9 - 15)) * 1)) = some (Value.int IntKind.u32 n15) ∧
                     ((0 ≤ IntKind.wrap IntKind.i64 (n9 - 2) ∧
                       IntKind.wrap IntKind.i64 (n9 - 2) < (↑64 : Int)) ∧
                      ∃ n16 : Int, (World.cell? w10 (Addr.add (Addr.mk (Array.size (World.heap w)) 0 none) (Int.toNat (IntKind.wrap IntKind.i64 (n9 - 2)) * 1)) = some (Value.int IntKind.u32 n16) ∧
                       ∀ w17 : World,
                       (Drew w10 w17 →
                         ∀ w18 : World,
                         (Drew w17 w18 →
                           ∃ I19 : World → Prop, (I19 w18 ∧
                            ((0 ≤ IntKind.wrap IntKind.i64 (n9 - 16) ∧
                              IntKind.wrap IntKind.i64 (n9 - 16) < (↑64 : Int)) ∧
                             ∃ n20 : Int, ((∀ w21 : World,
                              (I19 w21 →
                                World.cell? w21 (Addr.add (Addr.mk (Array.size (World.heap w)) 0 none) (Int.toNat (IntKind.wrap IntKind.i64 (n9 - 16)) * 1)) = some (Value.int IntKind.u32 n20))) ∧
                              ((0 : Int) ≤ (3 : Int) ∧
                               ((0 ≤ IntKind.wrap IntKind.i64 (n9 - 7) ∧
                                 IntKind.wrap IntKind.i64 (n9 - 7) < (↑64 : Int)) ∧
                                ∃ n22 : Int, ((∀ w23 : World,
                                 (I19 w23 →
                                   World.cell? w23 (Addr.add (Addr.mk (Array.size (World.heap w)) 0 none) (Int.toNat (IntKind.wrap IntKind.i64 (n9 - 7)) * 1)) = some (Value.int IntKind.u32 n22))) ∧
                                 ((0 : Int) ≤ (10 : Int) ∧
                                  Calls Tryz.prog (76 : Nat) (Array.mk [Value.int IntKind.u32 n15, Value.int IntKind.i64 (-7)]) (w18) (fun e24 w25 =>
                                    ∃ n26 : Int, (e24 = Ending.returned (Value.int IntKind.u32 n26) ∧
                                     (I19 w25 ∧
                                      Calls Tryz.prog (76 : Nat) (Array.mk [Value.int IntKind.u32 n15, Value.int IntKind.i64 (-18)]) (w25) (fun e27 w28 =>
                                        ∃ n29 : Int, (e27 = Ending.returned (Value.int IntKind.u32 n29) ∧
                                         (I19 w28 ∧
                                          Calls Tryz.prog (76 : Nat) (Array.mk [Value.int IntKind.u32 n16, Value.int IntKind.i64 (-17)]) (w28) (fun e30 w31 =>
                                            ∃ n32 : Int, (e30 = Ending.returned (Value.int IntKind.u32 n32) ∧
                                             (I19 w31 ∧
                                              Calls Tryz.prog (76 : Nat) (Array.mk [Value.int IntKind.u32 n16, Value.int IntKind.i64 (-19)]) (w31) (fun e33 w34 =>
                                                ∃ n35 : Int, (e33 = Ending.returned (Value.int IntKind.u32 n35) ∧
                                                 (I19 w34 ∧
                                                  ((0 ≤ n9 ∧
                                                    n9 < (↑64 : Int)) ∧
                                                   (Wr w34 (Addr.add (Addr.mk (Array.size (World.heap w)) 0 none) (Int.toNat n9 * 1)) ∧
                                                    ∀ w36 : World,
                                                    (w36 = World.setCell w34 (Addr.add (Addr.mk (Array.size (World.heap w)) 0 none) (Int.toNat n9 * 1)) (Value.int IntKind.u32 (IntKind.wrap IntKind.u32 (IntKind.wrap IntKind.u32 (IntKind.wrap IntKind.u32 (n20 + IntKind.wrap IntKind.u32 (↑(BitVec.toNat (BitVec.ofInt 32 (IntKind.wrap IntKind.u32 (↑(BitVec.toNat (BitVec.ofInt 32 n26 ^^^ BitVec.ofInt 32 n29)) : Int)) ^^^ BitVec.ofInt 32 (Int.fdiv n15 (2 ^ min (Int.toNat 3) 32)))) : Int)) + n22) + IntKind.wrap IntKind.u32 (↑(BitVec.toNat (BitVec.ofInt 32 (IntKind.wrap IntKind.u32 (↑(BitVec.toNat (BitVec.ofInt 32 n32 ^^^ BitVec.ofInt 32 n35)) : Int)) ^^^ BitVec.ofInt 32 (Int.fdiv n16 (2 ^ min (Int.toNat 10) 32)))) : Int)))) →
                                                      (I7 (IntKind.wrap IntKind.i64 (n9 + 1)) w36 ∧
                                                       I8 (IntKind.wrap IntKind.i64 (n9 + 1)) w36 < I8 n9 w10))))))))))))))))))))))))))))))))) ∧
              (decide (n9 < 64) = false →
                ∀ w37 : World,
                (w37 = World.alloc w10 (Obj.cells (Array.mk [Value.int IntKind.u32 0, Value.int IntKind.u32 0, Value.int IntKind.u32 0, Value.int IntKind.u32 0, Value.int IntKind.u32 0, Value.int IntKind.u32 0, Value.int IntKind.u32 0, Value.int IntKind.u32 0]) 111) →
                  ∃ w38 : World, ∃ n39 : Int, (Sem.run Tryz.prog (Builtin.copy_ (Array.mk [42, 42]) 3 (Array.mk [Value.slice (subA (some (Addr.mk (Array.size (World.heap w10)) 0 none)) 8 0 1) 8 8, Value.slice x0a x0n x0c])) w37 = Result.ok (Value.int IntKind.i64 n39) w38 ∧
                   ∃ I40 : Int → World → Prop, ∃ I41 : Int → World → Nat, (I40 0 w38 ∧
                    ∀ n42 : Int,
                    ∀ w43 : World,
                    (I40 n42 w43 →
                      (((decide (n42 < 64) = true →
                         (((0 : Int) ≤ (0 : Int) ∧
                           (0 : Int) < (↑(8 : Nat) : Int)) ∧
                          ∃ n44 : Int, (World.cell? w43 (Addr.add (Addr.mk (Array.size (World.heap w10)) 0 none) (Int.toNat 0 * 1)) = some (Value.int IntKind.u32 n44) ∧
                           (((0 : Int) ≤ (4 : Int) ∧
                             (4 : Int) < (↑(8 : Nat) : Int)) ∧
                            ∃ n45 : Int, (World.cell? w43 (Addr.add (Addr.mk (Array.size (World.heap w10)) 0 none) (Int.toNat 4 * 1)) = some (Value.int IntKind.u32 n45) ∧
                             ∀ w46 : World,
                             (Drew w43 w46 →
                               ∀ w47 : World,
                               (Drew w46 w47 →
                                 ∃ I48 : World → Prop, (I48 w47 ∧
                                  (((0 : Int) ≤ (7 : Int) ∧
                                    (7 : Int) < (↑(8 : Nat) : Int)) ∧
                                   ∃ n49 : Int, ((∀ w50 : World,
                                    (I48 w50 →
                                      World.cell? w50 (Addr.add (Addr.mk (Array.size (World.heap w10)) 0 none) (Int.toNat 7 * 1)) = some (Value.int IntKind.u32 n49))) ∧
                                    (((0 : Int) ≤ (5 : Int) ∧
                                      (5 : Int) < (↑(8 : Nat) : Int)) ∧
                                     ∃ n51 : Int, ((∀ w52 : World,
                                      (I48 w52 →
                                        World.cell? w52 (Addr.add (Addr.mk (Array.size (World.heap w10)) 0 none) (Int.toNat 5 * 1)) = some (Value.int IntKind.u32 n51))) ∧
                                      (((0 : Int) ≤ (6 : Int) ∧
                                        (6 : Int) < (↑(8 : Nat) : Int)) ∧
                                       ∃ n53 : Int, ((∀ w54 : World,
                                        (I48 w54 →
                                          World.cell? w54 (Addr.add (Addr.mk (Array.size (World.heap w10)) 0 none) (Int.toNat 6 * 1)) = some (Value.int IntKind.u32 n53))) ∧
                                        ((0 ≤ n42 ∧
                                          n42 < (↑64 : Int)) ∧
                                         ∃ n55 : Int, ((∀ w56 : World,
                                          (I48 w56 →
                                            World.cell? w56 (Addr.add (Addr.mk (Array.size (World.heap w3)) 0 none) (Int.toNat n42 * 1)) = some (Value.int IntKind.u32 n55))) ∧
                                          ((0 ≤ n42 ∧
                                            n42 < (↑64 : Int)) ∧
                                           ∃ n57 : Int, ((∀ w58 : World,
                                            (I48 w58 →
                                              World.cell? w58 (Addr.add (Addr.mk (Array.size (World.heap w)) 0 none) (Int.toNat n42 * 1)) = some (Value.int IntKind.u32 n57))) ∧
                                            Calls Tryz.prog (76 : Nat) (Array.mk [Value.int IntKind.u32 n45, Value.int IntKind.i64 (-6)]) (w47) (fun e59 w60 =>
                                              ∃ n61 : Int, (e59 = Ending.returned (Value.int IntKind.u32 n61) ∧
                                               (I48 w60 ∧
                                                Calls Tryz.prog (76 : Nat) (Array.mk [Value.int IntKind.u32 n45, Value.int IntKind.i64 (-11)]) (w60) (fun e62 w63 =>
                                                  ∃ n64 : Int, (e62 = Ending.returned (Value.int IntKind.u32 n64) ∧
                                                   (I48 w63 ∧
                                                    Calls Tryz.prog (76 : Nat) (Array.mk [Value.int IntKind.u32 n45, Value.int IntKind.i64 (-25)]) (w63) (fun e65 w66 =>
                                                      ∃ n67 : Int, (e65 = Ending.returned (Value.int IntKind.u32 n67) ∧
                                                       (I48 w66 ∧
                                                        ∀ w68 : World,
                                                        (Drew w66 w68 →
                                                          ∃ I69 : World → Prop, (I69 w68 ∧
                                                           (((0 : Int) ≤ (1 : Int) ∧
                                                             (1 : Int) < (↑(8 : Nat) : Int)) ∧
                                                            ∃ n70 : Int, ((∀ w71 : World,
                                                             (I69 w71 →
                                                               World.cell? w71 (Addr.add (Addr.mk (Array.size (World.heap w10)) 0 none) (Int.toNat 1 * 1)) = some (Value.int IntKind.u32 n70))) ∧
                                                             (((0 : Int) ≤ (2 : Int) ∧
                                                               (2 : Int) < (↑(8 : Nat) : Int)) ∧
                                                              ∃ n72 : Int, ((∀ w73 : World,
                                                               (I69 w73 →
                                                                 World.cell? w73 (Addr.add (Addr.mk (Array.size (World.heap w10)) 0 none) (Int.toNat 2 * 1)) = some (Value.int IntKind.u32 n72))) ∧
                                                               (((0 : Int) ≤ (1 : Int) ∧
                                                                 (1 : Int) < (↑(8 : Nat) : Int)) ∧
                                                                ∃ n74 : Int, ((∀ w75 : World,
                                                                 (I69 w75 →
                                                                   World.cell? w75 (Addr.add (Addr.mk (Array.size (World.heap w10)) 0 none) (Int.toNat 1 * 1)) = some (Value.int IntKind.u32 n74))) ∧
                                                                 (((0 : Int) ≤ (2 : Int) ∧
                                                                   (2 : Int) < (↑(8 : Nat) : Int)) ∧
                                                                  ∃ n76 : Int, ((∀ w77 : World,
                                                                   (I69 w77 →
                                                                     World.cell? w77 (Addr.add (Addr.mk (Array.size (World.heap w10)) 0 none) (Int.toNat 2 * 1)) = some (Value.int IntKind.u32 n76))) ∧
                                                                   Calls Tryz.prog (76 : Nat) (Array.mk [Value.int IntKind.u32 n44, Value.int IntKind.i64 (-2)]) (w68) (fun e78 w79 =>
                                                                     ∃ n80 : Int, (e78 = Ending.returned (Value.int IntKind.u32 n80) ∧
                                                                      (I69 w79 ∧
                                                                       Calls Tryz.prog (76 : Nat) (Array.mk [Value.int IntKind.u32 n44, Value.int IntKind.i64 (-13)]) (w79) (fun e81 w82 =>
                                                                         ∃ n83 : Int, (e81 = Ending.returned (Value.int IntKind.u32 n83) ∧
                                                                          (I69 w82 ∧
                                                                           Calls Tryz.prog (76 : Nat) (Array.mk [Value.int IntKind.u32 n44, Value.int IntKind.i64 (-22)]) (w82) (fun e84 w85 =>
                                                                             ∃ n86 : Int, (e84 = Ending.returned (Value.int IntKind.u32 n86) ∧
                                                                              (I69 w85 ∧
                                                                               (((0 : Int) ≤ (0 : Int) ∧
                                                                                 (0 : Int) < (↑(8 : Nat) : Int)) ∧
                                                                                ∃ n87 : Int, (World.cell? w85 (Addr.add (Addr.mk (Array.size (World.heap w10)) 0 none) (Int.toNat 0 * 1)) = some (Value.int IntKind.u32 n87) ∧
                                                                                 (((0 : Int) ≤ (1 : Int) ∧
                                                                                   (1 : Int) < (↑(8 : Nat) : Int)) ∧
                                                                                  ∃ n88 : Int, (World.cell? w85 (Addr.add (Addr.mk (Array.size (World.heap w10)) 0 none) (Int.toNat 1 * 1)) = some (Value.int IntKind.u32 n88) ∧
                                                                                   (((0 : Int) ≤ (2 : Int) ∧
                                                                                     (2 : Int) < (↑(8 : Nat) : Int)) ∧
                                                                                    ∃ n89 : Int, (World.cell? w85 (Addr.add (Addr.mk (Array.size (World.heap w10)) 0 none) (Int.toNat 2 * 1)) = some (Value.int IntKind.u32 n89) ∧
                                                                                     (((0 : Int) ≤ (3 : Int) ∧
                                                                                       (3 : Int) < (↑(8 : Nat) : Int)) ∧
                                                                                      ∃ n90 : Int, (World.cell? w85 (Addr.add (Addr.mk (Array.size (World.heap w10)) 0 none) (Int.toNat 3 * 1)) = some (Value.int IntKind.u32 n90) ∧
                                                                                       (((0 : Int) ≤ (4 : Int) ∧
                                                                                         (4 : Int) < (↑(8 : Nat) : Int)) ∧
                                                                                        ∃ n91 : Int, (World.cell? w85 (Addr.add (Addr.mk (Array.size (World.heap w10)) 0 none) (Int.toNat 4 * 1)) = some (Value.int IntKind.u32 n91) ∧
                                                                                         (((0 : Int) ≤ (5 : Int) ∧
                                                                                           (5 : Int) < (↑(8 : Nat) : Int)) ∧
                                                                                          ∃ n92 : Int, (World.cell? w85 (Addr.add (Addr.mk (Array.size (World.heap w10)) 0 none) (Int.toNat 5 * 1)) = some (Value.int IntKind.u32 n92) ∧
                                                                                           (((0 : Int) ≤ (6 : Int) ∧
                                                                                             (6 : Int) < (↑(8 : Nat) : Int)) ∧
                                                                                            ∃ n93 : Int, (World.cell? w85 (Addr.add (Addr.mk (Array.size (World.heap w10)) 0 none) (Int.toNat 6 * 1)) = some (Value.int IntKind.u32 n93) ∧
                                                                                             ∃ w94 : World, ((Sem.run Tryz.prog (storeVar 111 (Addr.mk (Array.size (World.heap w10)) 0 none) (Value.agg (Array.mk [Value.int IntKind.u32 (IntKind.wrap IntKind.u32 (IntKind.wrap IntKind.u32 (IntKind.wrap IntKind.u32 (IntKind.wrap IntKind.u32 (IntKind.wrap IntKind.u32 (n49 + IntKind.wrap IntKind.u32 (↑(BitVec.toNat (BitVec.ofInt 32 (IntKind.wrap IntKind.u32 (↑(BitVec.toNat (BitVec.ofInt 32 n61 ^^^ BitVec.ofInt 32 n64)) : Int)) ^^^ BitVec.ofInt 32 n67)) : Int)) + IntKind.wrap IntKind.u32 (↑(BitVec.toNat (BitVec.ofInt 32 (IntKind.wrap IntKind.u32 (↑(BitVec.toNat (BitVec.ofInt 32 n45 &&& BitVec.ofInt 32 n51)) : Int)) ^^^ BitVec.ofInt 32 (IntKind.wrap IntKind.u32 (↑(BitVec.toNat (BitVec.ofInt 32 (IntKind.wrap IntKind.u32 (↑(BitVec.toNat (BitVec.ofInt 32 (if IntKind.signed IntKind.u32 = true then -1 else Int.ofNat (2 ^ 32 - Nat.succ 0)) ^^^ BitVec.ofInt 32 n45)) : Int)) &&& BitVec.ofInt 32 n53)) : Int)))) : Int)) + n55) + n57) + IntKind.wrap IntKind.u32 (IntKind.wrap IntKind.u32 (↑(BitVec.toNat (BitVec.ofInt 32 (IntKind.wrap IntKind.u32 (↑(BitVec.toNat (BitVec.ofInt 32 n80 ^^^ BitVec.ofInt 32 n83)) : Int)) ^^^ BitVec.ofInt 32 n86)) : Int) + IntKind.wrap IntKind.u32 (↑(BitVec.toNat (BitVec.ofInt 32 (IntKind.wrap IntKind.u32 (↑(BitVec.toNat (BitVec.ofInt 32 (IntKind.wrap IntKind.u32 (↑(BitVec.toNat (BitVec.ofInt 32 n44 &&& BitVec.ofInt 32 n70)) : Int)) ^^^ BitVec.ofInt 32 (IntKind.wrap IntKind.u32 (↑(BitVec.toNat (BitVec.ofInt 32 n44 &&& BitVec.ofInt 32 n72)) : Int)))) : Int)) ^^^ BitVec.ofInt 32 (IntKind.wrap IntKind.u32 (↑(BitVec.toNat (BitVec.ofInt 32 n74 &&& BitVec.ofInt 32 n76)) : Int)))) : Int)))), Value.int IntKind.u32 n87, Value.int IntKind.u32 n88, Value.int IntKind.u32 n89, Value.int IntKind.u32 (IntKind.wrap IntKind.u32 (n90 + IntKind.wrap IntKind.u32 (IntKind.wrap IntKind.u32 (IntKind.wrap IntKind.u32 (IntKind.wrap IntKind.u32 (n49 + IntKind.wrap IntKind.u32 (↑(BitVec.toNat (BitVec.ofInt 32 (IntKind.wrap IntKind.u32 (↑(BitVec.toNat (BitVec.ofInt 32 n61 ^^^ BitVec.ofInt 32 n64)) : Int)) ^^^ BitVec.ofInt 32 n67)) : Int)) + IntKind.wrap IntKind.u32 (↑(BitVec.toNat (BitVec.ofInt 32 (IntKind.wrap IntKind.u32 (↑(BitVec.toNat (BitVec.ofInt 32 n45 &&& BitVec.ofInt 32 n51)) : Int)) ^^^ BitVec.ofInt 32 (IntKind.wrap IntKind.u32 (↑(BitVec.toNat (BitVec.ofInt 32 (IntKind.wrap IntKind.u32 (↑(BitVec.toNat (BitVec.ofInt 32 (if IntKind.signed IntKind.u32 = true then -1 else Int.ofNat (2 ^ 32 - Nat.succ 0)) ^^^ BitVec.ofInt 32 n45)) : Int)) &&& BitVec.ofInt 32 n53)) : Int)))) : Int)) + n55) + n57))), Value.int IntKind.u32 n91, Value.int IntKind.u32 n92, Value.int IntKind.u32 n93]))) w85 = Result.ok PUnit.unit w94) ∧
                                                                                              (I40 (IntKind.wrap IntKind.i64 (n42 + 1)) w94 ∧
                                                                                               I41 (IntKind.wrap IntKind.i64 (n42 + 1)) w94 < I41 n42 w43))))))))))))))))))))))))))))))))))))))))))))))))))))))))))))))) ∧
                       (decide (n42 < 64) = false →
                         ∃ I95 : Int → World → Prop, ∃ I96 : Int → World → Nat, (I95 0 w43 ∧
                          ∀ n97 : Int,
                          ∀ w98 : World,
                          (I95 n97 w98 →
                            (((decide (n97 < 8) = true →
                               ∀ w99 : World,
                               (Drew w98 w99 →
                                 ((0 ≤ n97 ∧
                                   n97 < (↑x0n : Int)) ∧
                                  ∃ a100 : Addr, (x0a = some a100 ∧
                                   ∃ n101 : Int, (World.cell? w99 (Addr.add a100 (Int.toNat n97 * 1)) = some (Value.int IntKind.u32 n101) ∧
                                    ((0 ≤ n97 ∧
                                      n97 < (↑8 : Int)) ∧
                                     ∃ n102 : Int, (World.cell? w99 (Addr.add (Addr.mk (Array.size (World.heap w10)) 0 none) (Int.toNat n97 * 1)) = some (Value.int IntKind.u32 n102) ∧
                                      ((0 ≤ n97 ∧
                                        n97 < (↑x0n : Int)) ∧
                                       ∃ a103 : Addr, (x0a = some a103 ∧
                                        (Wr w99 (Addr.add a103 (Int.toNat n97 * 1)) ∧
                                         ∀ w104 : World,
                                         (w104 = World.setCell w99 (Addr.add a103 (Int.toNat n97 * 1)) (Value.int IntKind.u32 (IntKind.wrap IntKind.u32 (n101 + n102))) →
                                           (I95 (IntKind.wrap IntKind.i64 (n97 + 1)) w104 ∧
                                            I96 (IntKind.wrap IntKind.i64 (n97 + 1)) w104 < I96 n97 w98))))))))))))) ∧
                             (decide (n97 < 8) = false →
                               R (Value.tuple (Array.mk [])) w98)))))))))))))))))))
theorem vc_sha_block256_ok {x0a : Option Addr} {x0n : Nat} {x0c : Nat} {x1 : ByteArray} {w : World} {R : Value → World → Prop} {R' : Ending → World → Prop} (h : vc_sha_block256 x0a x0n x0c x1 w R) (hR : ∀ v w', R v w' → R' (.returned v) w') :
    Calls Tryz.prog 52 #[.slice x0a x0n x0c, .string x1] w R' :=
  calls_of_body (vs := [(.slice x0a x0n x0c, false), (.string x1, false)]) (ty := ty) (ann := ⟨[], [(3, [(17, .int .i64)]), (13, [(70, .int .i64)]), (21, [(152, .int .i64)])], [(7, .quiet), (8, .held [(0, true), (1, true), (2, true), (3, true), (4, true), (5, true), (7, true), (10, true), (11, true), (14, true), (15, true), (16, true), (17, true), (19, true), (21, true), (24, true), (25, true), (6, false), (8, false), (9, true), (12, true), (13, true), (18, true), (20, false), (22, false), (23, true), (26, true), (27, true), (28, true), (29, false)]), (15, .quiet), (16, .held [(0, true), (1, true), (2, true), (4, true), (7, true), (11, true), (12, true), (13, true), (14, true), (15, true), (16, true), (17, true), (18, true), (19, true), (20, true), (22, true), (23, true), (24, true), (26, true), (27, true), (28, true), (3, false), (5, false), (6, true), (8, false), (9, true), (10, true), (21, true), (25, true), (29, true), (30, true)]), (17, .held [(0, true), (2, true), (5, true), (8, true), (9, true), (10, true), (11, true), (12, true), (13, true), (14, true), (15, true), (16, true), (17, true), (18, true), (19, true), (20, true), (21, true), (22, true), (1, false), (3, false), (4, true), (6, false), (7, true), (23, true), (24, true)]), (23, .tail 9)], []⟩) (c := Tryz.f52.body.getD .skip) (by kernel_rfl) Tryz.func52 (by kernel_rfl) (by kernel_rfl) (Eq.mp (by kernel_rfl) h) hR
/-- (*sha.hash).write#256 -/
def vc_sha_hash_write_256 (x0 : Nat) (x1 : ByteArray) (x2a : Option Addr) (x2n : Nat) (x2c : Nat) (w : World) (R : Value → World → Prop) : Prop :=
  ∃ I1 : World → Prop, ((∃ l2 : Sl, (World.cell? w (Addr.mk x0 0 none) = some (Value.slice l2.1 l2.2 l2.3) ∧
    (((Option.isNone l2.1 = true →
       ∃ w3 : World, ∃ l4 : Sl, (Sem.run Tryz.prog (Builtin.append_ (Array.mk [42, 42]) 42 (Array.mk [Value.slice none 0 0, Value.slice x2a x2n x2c])) w = Result.ok (Value.slice l4.1 l4.2 l4.3) w3 ∧
        (Wr w3 (Addr.mk x0 0 none) ∧
         ∀ w5 : World,
         (w5 = World.setCell w3 (Addr.mk x0 0 none) (Value.slice l4.1 l4.2 l4.3) →
           I1 w5))))) ∧
     (Option.isNone l2.1 = false →
       I1 w)))) ∧
   ∀ w6 : World,
   (I1 w6 →
     ∃ n7 : Int, (World.cell? w6 (Addr.mk x0 2 none) = some (Value.int IntKind.u64 n7) ∧
      (Wr w6 (Addr.mk x0 2 none) ∧
       ∀ w8 : World,
       (w8 = World.setCell w6 (Addr.mk x0 2 none) (Value.int IntKind.u64 (IntKind.wrap IntKind.u64 (n7 + IntKind.wrap IntKind.u64 (↑(ByteArray.size x1) : Int)))) →
         ∃ s9 : ByteArray, (World.cell? w8 (Addr.mk x0 1 none) = some (Value.string s9) ∧
          (ByteArray.size s9 + ByteArray.size x1 ≤ 9223372036854775807 ∧
           ∃ I10 : ByteArray → World → Prop, ∃ I11 : ByteArray → World → Nat, (I10 (s9 ++ x1) w8 ∧
            ∀ s12 : ByteArray,
            ∀ w13 : World,
            (I10 s12 w13 →
              (((decide ((↑(ByteArray.size s12) : Int) ≥ 64) = true →
                 ∀ w14 : World,
                 (Drew w13 w14 →
                   ∃ I15 : World → Prop, (I15 w14 ∧
                    ∃ l16 : Sl, ((∀ w17 : World,
                     (I15 w17 →
                       World.cell? w17 (Addr.mk x0 0 none) = some (Value.slice l16.1 l16.2 l16.3))) ∧
                     (((0 : Int) ≤ (64 : Int) ∧
                       64 ≤ (↑(ByteArray.size s12) : Int)) ∧
                      Calls Tryz.prog (52 : FuncId) (Array.mk [Value.slice l16.1 l16.2 l16.3, Value.string (ByteArray.extract s12 0 (Int.toNat 64))]) (w14) (fun e18 w19 =>
                        (e18 = Ending.returned (Value.tuple (Array.mk [])) ∧
                         (((0 : Int) ≤ (64 : Int) ∧
                           64 ≤ (↑(ByteArray.size s12) : Int)) ∧
                          (I10 (ByteArray.extract s12 (Int.toNat 64) (ByteArray.size s12)) w19 ∧
                           I11 (ByteArray.extract s12 (Int.toNat 64) (ByteArray.size s12)) w19 < I11 s12 w13)))))))))) ∧
               (decide ((↑(ByteArray.size s12) : Int) ≥ 64) = false →
                 (Wr w13 (Addr.mk x0 1 none) ∧
                  ∀ w20 : World,
                  (w20 = World.setCell w13 (Addr.mk x0 1 none) (Value.string s12) →
                    R (Value.tuple (Array.mk [])) w20)))))))))))))
theorem vc_sha_hash_write_256_ok {x0 : Nat} {x1 : ByteArray} {x2a : Option Addr} {x2n : Nat} {x2c : Nat} {w : World} {R : Value → World → Prop} {R' : Ending → World → Prop} (h : vc_sha_hash_write_256 x0 x1 x2a x2n x2c w R) (hR : ∀ v w', R v w' → R' (.returned v) w') :
    Calls Tryz.prog 50 #[.pointer (some ⟨x0, 0, none⟩), .string x1, .slice x2a x2n x2c, .func (.func 52) #[] #[]] w R' :=
  calls_of_body (vs := [(.pointer (some ⟨x0, 0, none⟩), true), (.string x1, false), (.slice x2a x2n x2c, false), (.func (.func 52) #[] #[], false)]) (ty := ty) (ann := ⟨[(2, [])], [(4, [(1, .str)])], [(5, .held [(0, true), (1, true), (2, true), (3, true), (4, true), (5, true), (6, true), (7, false)])], []⟩) (c := Tryz.f50.body.getD .skip) (by kernel_rfl) Tryz.func50 (by kernel_rfl) (by kernel_rfl) (Eq.mp (by kernel_rfl) h) hR
/-- (*sha.hash).sum#256 -/
def vc_sha_hash_sum_256 (x0 : Nat) (x1a : Option Addr) (x1n : Nat) (x1c : Nat) (w : World) (R : Value → World → Prop) : Prop :=
  ∃ I1 : Addr → World → Prop, ((∀ w2 : World,
   (Drew w w2 →
     ∃ I3 : World → Prop, (I3 w2 ∧
      ∃ l4 : Sl, ((∀ w5 : World,
       (I3 w5 →
         World.cell? w5 (Addr.mk x0 0 none) = some (Value.slice l4.1 l4.2 l4.3))) ∧
       ∃ s6 : ByteArray, ((∀ w7 : World,
        (I3 w7 →
          World.cell? w7 (Addr.mk x0 1 none) = some (Value.string s6))) ∧
        ∃ n8 : Int, ((∀ w9 : World,
         (I3 w9 →
           World.cell? w9 (Addr.mk x0 2 none) = some (Value.int IntKind.u64 n8))) ∧
         ((∃ w10 : World, ∃ l11 : Sl, (Sem.run Tryz.prog (Builtin.append_ (Array.mk [42, 42]) 42 (Array.mk [Value.slice none 0 0, Value.slice l4.1 l4.2 l4.3])) w2 = Result.ok (Value.slice l11.1 l11.2 l11.3) w10 ∧
           (I3 w10 ∧
            ∀ w12 : World,
            (w12 = World.alloc w10 (Obj.cells (Array.mk [Value.slice none 0 0, Value.string (ByteArray.mk (Array.mk [])), Value.int IntKind.u64 0]) 45) →
              (I3 w12 ∧
               ∃ w13 : World, (Sem.run Tryz.prog (storeVar 45 (Addr.mk (Array.size (World.heap w10)) 0 none) (Value.agg (Array.mk [Value.slice l11.1 l11.2 l11.3, Value.string s6, Value.int IntKind.u64 n8]))) w12 = Result.ok PUnit.unit w13 ∧
                I1 (Addr.mk (Array.size (World.heap w10)) 0 none) w13)))))) ∧
          ∀ w14 : World,
          (w14 = World.alloc w2 (Obj.cells (Array.mk [Value.slice none 0 0, Value.string (ByteArray.mk (Array.mk [])), Value.int IntKind.u64 0]) 45) →
            (I3 w14 ∧
             ∃ w15 : World, ∃ l16 : Sl, (Sem.run Tryz.prog (Builtin.append_ (Array.mk [42, 42]) 42 (Array.mk [Value.slice none 0 0, Value.slice l4.1 l4.2 l4.3])) w14 = Result.ok (Value.slice l16.1 l16.2 l16.3) w15 ∧
              (I3 w15 ∧
               ∃ w17 : World, (Sem.run Tryz.prog (storeVar 45 (Addr.mk (Array.size (World.heap w2)) 0 none) (Value.agg (Array.mk [Value.slice l16.1 l16.2 l16.3, Value.string s6, Value.int IntKind.u64 n8]))) w15 = Result.ok PUnit.unit w17 ∧
                I1 (Addr.mk (Array.size (World.heap w2)) 0 none) w17)))))))))))) ∧
   ∀ a18 : Addr,
   ∀ w19 : World,
   (I1 a18 w19 →
     ∃ I20 : World → Prop, ((∃ l21 : Sl, (World.cell? w19 (Addr.mk x0 0 none) = some (Value.slice l21.1 l21.2 l21.3) ∧
       (((Option.isNone l21.1 = true →
          (Wr w19 a18 ∧
           ∀ w22 : World,
           (w22 = World.setCell w19 a18 (Value.slice none 0 0) →
             I20 w22)))) ∧
        (Option.isNone l21.1 = false →
          I20 w19)))) ∧
      ∀ w23 : World,
      (I20 w23 →
        ∃ I24 : ByteArray → World → Prop, ∃ I25 : ByteArray → World → Nat, (I24 (ByteArray.mk (Array.mk [128])) w23 ∧
         ∀ s26 : ByteArray,
         ∀ w27 : World,
         (I24 s26 w27 →
           ∃ s28 : ByteArray, (World.cell? w27 (Addr.mk x0 1 none) = some (Value.string s28) ∧
            ((64 : Int) ≠ (0 : Int) ∧
             ((((Int.tmod (IntKind.wrap IntKind.i64 ((↑(ByteArray.size s28) : Int) + (↑(ByteArray.size s26) : Int))) 64 != 56) = true →
                (ByteArray.size s26 + ByteArray.size (ByteArray.mk (Array.mk [0])) ≤ 9223372036854775807 ∧
                 (I24 (s26 ++ ByteArray.mk (Array.mk [0])) w27 ∧
                  I25 (s26 ++ ByteArray.mk (Array.mk [0])) w27 < I25 s26 w27)))) ∧
              ((Int.tmod (IntKind.wrap IntKind.i64 ((↑(ByteArray.size s28) : Int) + (↑(ByteArray.size s26) : Int))) 64 != 56) = false →
                ∃ I29 : Sl → Int → World → Prop, ∃ I30 : Sl → Int → World → Nat, (I29 (Sl.mk none 0 0) 56 w27 ∧
                 ∀ l31 : Sl,
                 ∀ n32 : Int,
                 ∀ w33 : World,
                 (I29 l31 n32 w33 →
                   (((decide (n32 ≥ 0) = true →
                      ∃ n34 : Int, (World.cell? w33 (Addr.mk x0 2 none) = some (Value.int IntKind.u64 n34) ∧
                       (0 ≤ n32 ∧
                        ∀ w35 : World,
                        (w35 = World.alloc w33 (Obj.cells (Array.mk [Value.int IntKind.u8 (IntKind.wrap IntKind.u8 (Int.fdiv (IntKind.wrap IntKind.u64 (n34 * 8)) (2 ^ min (Int.toNat n32) 64)))]) 5) →
                          ∃ w36 : World, ∃ l37 : Sl, (Sem.run Tryz.prog (Builtin.append_ (Array.mk [86, 86]) 86 (Array.mk [Value.slice l31.1 l31.2 l31.3, Value.slice (some (Addr.mk (Array.size (World.heap w33)) 0 none)) 1 1])) w35 = Result.ok (Value.slice l37.1 l37.2 l37.3) w36 ∧
                           (I29 (Sl.mk l37.1 l37.2 l37.3) (IntKind.wrap IntKind.i64 (n32 - 8)) w36 ∧
                            I30 (Sl.mk l37.1 l37.2 l37.3) (IntKind.wrap IntKind.i64 (n32 - 8)) w36 < I30 l31 n32 w33))))))) ∧
                    (decide (n32 ≥ 0) = false →
                      ∃ w38 : World, ∃ s39 : ByteArray, (Sem.run Tryz.prog (convert 86 9 (Value.slice l31.1 l31.2 l31.3)) w33 = Result.ok (Value.string s39) w38 ∧
                       (ByteArray.size s26 + ByteArray.size s39 ≤ 9223372036854775807 ∧
                        Calls Tryz.prog (50 : Nat) (Array.mk [Value.pointer (some a18), Value.string (s26 ++ s39), Value.slice x1a x1n x1c, Value.func (Fn.func 52) (Array.mk []) (Array.mk [])]) (w38) (fun e40 w41 =>
                          (e40 = Ending.returned (Value.tuple (Array.mk [])) ∧
                           ∃ l42 : Sl, (World.cell? w41 a18 = some (Value.slice l42.1 l42.2 l42.3) ∧
                            ∃ I43 : Sl → Int → World → Prop, ∃ I44 : Sl → Int → World → Nat, (I43 (Sl.mk none 0 0) 0 w41 ∧
                             ∀ l45 : Sl,
                             ∀ n46 : Int,
                             ∀ w47 : World,
                             (I43 l45 n46 w47 →
                               (((decide (n46 < (↑l42.2 : Int)) = true →
                                  ((0 ≤ n46 ∧
                                    n46 < (↑l42.2 : Int)) ∧
                                   ∃ a48 : Addr, (l42.1 = some a48 ∧
                                    ∃ n49 : Int, (World.cell? w47 (Addr.add a48 (Int.toNat n46 * 1)) = some (Value.int IntKind.u32 n49) ∧
                                     ((0 : Int) ≤ (24 : Int) ∧
                                      ((0 : Int) ≤ (16 : Int) ∧
                                       ((0 : Int) ≤ (8 : Int) ∧
                                        ∀ w50 : World,
                                        (w50 = World.alloc w47 (Obj.cells (Array.mk [Value.int IntKind.u8 (IntKind.wrap IntKind.u8 (Int.fdiv n49 (2 ^ min (Int.toNat 24) 32))), Value.int IntKind.u8 (IntKind.wrap IntKind.u8 (Int.fdiv n49 (2 ^ min (Int.toNat 16) 32))), Value.int IntKind.u8 (IntKind.wrap IntKind.u8 (Int.fdiv n49 (2 ^ min (Int.toNat 8) 32))), Value.int IntKind.u8 (IntKind.wrap IntKind.u8 n49)]) 5) →
                                          ∃ w51 : World, ∃ l52 : Sl, (Sem.run Tryz.prog (Builtin.append_ (Array.mk [86, 86]) 86 (Array.mk [Value.slice l45.1 l45.2 l45.3, Value.slice (some (Addr.mk (Array.size (World.heap w47)) 0 none)) 4 4])) w50 = Result.ok (Value.slice l52.1 l52.2 l52.3) w51 ∧
                                           (I43 (Sl.mk l52.1 l52.2 l52.3) (IntKind.wrap IntKind.i64 (n46 + 1)) w51 ∧
                                            I44 (Sl.mk l52.1 l52.2 l52.3) (IntKind.wrap IntKind.i64 (n46 + 1)) w51 < I44 l45 n46 w47))))))))))) ∧
                                (decide (n46 < (↑l42.2 : Int)) = false →
                                  ∃ w53 : World, ∃ s54 : ByteArray, (Sem.run Tryz.prog (convert 86 9 (Value.slice l45.1 l45.2 l45.3)) w47 = Result.ok (Value.string s54) w53 ∧
                                   R (Value.string s54) w53))))))))))))))))))))))))
theorem vc_sha_hash_sum_256_ok {x0 : Nat} {x1a : Option Addr} {x1n : Nat} {x1c : Nat} {w : World} {R : Value → World → Prop} {R' : Ending → World → Prop} (h : vc_sha_hash_sum_256 x0 x1a x1n x1c w R) (hR : ∀ v w', R v w' → R' (.returned v) w') :
    Calls Tryz.prog 53 #[.pointer (some ⟨x0, 0, none⟩), .slice x1a x1n x1c, .func (.func 52) #[] #[]] w R' :=
  calls_of_body (vs := [(.pointer (some ⟨x0, 0, none⟩), true), (.slice x1a x1n x1c, false), (.func (.func 52) #[] #[], false)]) (ty := ty) (ann := ⟨[(2, [(7, .addr)]), (4, [])], [(5, [(8, .str)]), (9, [(9, .slice), (10, .int .i64)]), (15, [(11, .slice), (71, .int .i64)])], [(1, .tree (.rd 0 (.rd 1 (.rd 2 (.rd 3 (.rd 5 (.rd 6 (.rd 7 (.rd 8 (.rd 9 (.rd 10 (.rd 11 (.rd 12 (.ef 4 (.rd 13 (.ef 14 (.ef 15 .done .done) .done)) (.ef 14 (.ef 4 (.rd 13 (.ef 15 .done .done)) .done) .done)))))))))))))))], []⟩) (c := Tryz.f53.body.getD .skip) (by kernel_rfl) Tryz.func53 (by kernel_rfl) (by kernel_rfl) (Eq.mp (by kernel_rfl) h) hR
/-- (*sha.Hash256).Write -/
def vc_sha_Hash256_Write (x0 : Nat) (x1 : ByteArray) (w : World) (R : Value → World → Prop) : Prop :=
  ∀ w1 : World,
  (Drew w w1 →
    ∃ I2 : World → Prop, (I2 w1 ∧
     Calls Tryz.prog (51 : Nat) (Array.mk []) (w1) (fun e3 w4 =>
       ∃ l5 : Sl, (e3 = Ending.returned (Value.slice l5.1 l5.2 l5.3) ∧
        (I2 w4 ∧
         Calls Tryz.prog (50 : Nat) (Array.mk [Value.pointer (some (Addr.mk x0 0 none)), Value.string x1, Value.slice l5.1 l5.2 l5.3, Value.func (Fn.func 52) (Array.mk []) (Array.mk [])]) (w4) (fun e6 w7 =>
           (e6 = Ending.returned (Value.tuple (Array.mk [])) ∧
            R (Value.tuple (Array.mk [])) w7)))))))
theorem vc_sha_Hash256_Write_ok {x0 : Nat} {x1 : ByteArray} {w : World} {R : Value → World → Prop} {R' : Ending → World → Prop} (h : vc_sha_Hash256_Write x0 x1 w R) (hR : ∀ v w', R v w' → R' (.returned v) w') :
    Calls Tryz.prog 16 #[.pointer (some ⟨x0, 0, none⟩), .string x1] w R' :=
  calls_of_body (vs := [(.pointer (some ⟨x0, 0, none⟩), true), (.string x1, false)]) (ty := ty) (ann := ⟨[], [], [(0, .held [(0, true), (1, true), (2, true), (3, true), (4, false), (5, false)])], []⟩) (c := Tryz.f16.body.getD .skip) (by kernel_rfl) Tryz.func16 (by kernel_rfl) (by kernel_rfl) (Eq.mp (by kernel_rfl) h) hR
/-- (*sha.Hash256).Sum -/
def vc_sha_Hash256_Sum (x0 : Nat) (w : World) (R : Value → World → Prop) : Prop :=
  ∀ w1 : World,
  (Drew w w1 →
    ∃ I2 : World → Prop, (I2 w1 ∧
     Calls Tryz.prog (51 : Nat) (Array.mk []) (w1) (fun e3 w4 =>
       ∃ l5 : Sl, (e3 = Ending.returned (Value.slice l5.1 l5.2 l5.3) ∧
        (I2 w4 ∧
         Calls Tryz.prog (53 : Nat) (Array.mk [Value.pointer (some (Addr.mk x0 0 none)), Value.slice l5.1 l5.2 l5.3, Value.func (Fn.func 52) (Array.mk []) (Array.mk [])]) (w4) (fun e6 w7 =>
           ∃ s8 : ByteArray, (e6 = Ending.returned (Value.string s8) ∧
            (I2 w7 ∧
             R (Value.string s8) w7))))))))
theorem vc_sha_Hash256_Sum_ok {x0 : Nat} {w : World} {R : Value → World → Prop} {R' : Ending → World → Prop} (h : vc_sha_Hash256_Sum x0 w R) (hR : ∀ v w', R v w' → R' (.returned v) w') :
    Calls Tryz.prog 20 #[.pointer (some ⟨x0, 0, none⟩)] w R' :=
  calls_of_body (vs := [(.pointer (some ⟨x0, 0, none⟩), true)]) (ty := ty) (ann := ⟨[], [], [(1, .held [(0, true), (1, true), (2, true), (3, false), (4, false), (5, true)])], []⟩) (c := Tryz.f20.body.getD .skip) (by kernel_rfl) Tryz.func20 (by kernel_rfl) (by kernel_rfl) (Eq.mp (by kernel_rfl) h) hR
/-- sha.Sum256 -/
def vc_sha_Sum256 (x0 : ByteArray) (w : World) (R : Value → World → Prop) : Prop :=
  ∀ w1 : World,
  (w1 = World.alloc w (Obj.cells (Array.mk [Value.slice none 0 0, Value.string (ByteArray.mk (Array.mk [])), Value.int IntKind.u64 0]) 47) →
    Calls Tryz.prog (16 : Nat) (Array.mk [Value.pointer (some (Addr.mk (Array.size (World.heap w)) 0 none)), Value.string x0]) (w1) (fun e2 w3 =>
      (e2 = Ending.returned (Value.tuple (Array.mk [])) ∧
       Calls Tryz.prog (20 : Nat) (Array.mk [Value.pointer (some (Addr.mk (Array.size (World.heap w)) 0 none))]) (w3) (fun e4 w5 =>
         ∃ s6 : ByteArray, (e4 = Ending.returned (Value.string s6) ∧
          R (Value.string s6) w5)))))
theorem vc_sha_Sum256_ok {x0 : ByteArray} {w : World} {R : Value → World → Prop} {R' : Ending → World → Prop} (h : vc_sha_Sum256 x0 w R) (hR : ∀ v w', R v w' → R' (.returned v) w') :
    Calls Tryz.prog 18 #[.string x0] w R' :=
  calls_of_body (vs := [(.string x0, false)]) (ty := ty) (ann := ⟨[], [], [], []⟩) (c := Tryz.f18.body.getD .skip) (by kernel_rfl) Tryz.func18 (by kernel_rfl) (by kernel_rfl) (Eq.mp (by kernel_rfl) h) hR
end Go.Proofs.YtfoeooddnmppnaaGreatDoor

/- What the small functions of the package sha and of its reference do. Conditions: a word's text has four bytes; a turn is by less than 32. -/
set_option linter.unusedVariables false
namespace Go.Proofs.YtfoeooddnmppnaaGreatDoor
open Go Vc ShaM Go.Proofs

theorem elU32 : El Tryz.prog T_S_uint32 T_uint32 (.int .u32 0) 4 := ⟨by kernel_rfl, by kernel_rfl, rfl⟩
abbrev uv (l : List W) : List Value := l.map (fun x : W => Value.int .u32 (x.toNat : Int))
theorem uv_get {l : List W} {i : Nat} (h : i < l.length) : (uv l)[i]? = some (.int .u32 ((l.getD i 0).toNat : Int)) := by
  simp only [uv, List.getElem?_map, List.getElem?_eq_getElem h, Option.map_some, List.getD_eq_getElem?_getD, Option.getD_some]
theorem uv_len (l : List W) : (uv l).length = l.length := List.length_map ..
/-- An element of an array by value. -/
theorem index_agg {P : Program} {w : World} (t e : TypeId) (n : Nat) (cs : List Value) (k : IntKind) (i : Nat) (h : P.underlying t = some (.array n e)) (hs : (P.info? e).map (·.size) = some 1) (hl : cs.length = n) (hin : i < n) (ho : one P e = true) :
    (Instr.index t (.agg cs.toArray) (.int k (i : Int))).run P w = .ok (cs.getD i undef) w := by
  obtain ⟨ie, hie, hsz⟩ := Option.map_eq_some_iff.1 hs
  have hn : 0 ≤ (i : Int) ∧ (i : Int) < (n : Int) := by omega
  have hsize : ∀ w, (Go.sizeOf e).run P w = .ok 1 w := fun w => by simp [Go.sizeOf, typeInfo, hie, hsz]
  have hi : i < cs.length := by omega
  simp [Instr.index, run_underlying h, asIntOf, hin, go_sem, hsize, run_isAgg ho, Result.andThen, hi]

theorem word_spec (s : ByteArray) (h : 4 ≤ s.size) (w : World) : Calls Tryz.prog F_sha_word #[.string s] w fun e w' => e = .returned (.int .u32 ((be s.data.toList 0).toNat : Int)) ∧ Drew w w' := by
  refine vc_sha_word_ok (R := fun v w' => v = .int .u32 ((be s.data.toList 0).toNat : Int) ∧ Drew w w') ?_ (fun v w' h => ⟨by rw [h.1], h.2⟩)
  refine ⟨⟨by decide, by omega⟩, by decide, ⟨by decide, by omega⟩, by decide, ⟨by decide, by omega⟩, by decide, ⟨by decide, by omega⟩, fun w1 d => ⟨?_, d⟩⟩
  have b0 := byteAt_nat s 0
  have b1 := byteAt_nat s 1
  have b2 := byteAt_nat s 2
  have b3 := byteAt_nat s 3
  have l0 := byt_lt s 0
  have l1 := byt_lt s 1
  have l2 := byt_lt s 2
  have l3 := byt_lt s 3
  have e : (be s.data.toList 0).toNat = byt s 0 * 16777216 + byt s 1 * 65536 + byt s 2 * 256 + byt s 3 := by
    unfold be byt
    rw [BitVec.toNat_ofNat]
    simp only [List.getD_eq_getElem?_getD, Nat.zero_add]
    unfold byt at l0 l1 l2 l3
    exact Nat.mod_eq_of_lt (by omega)
  rw [show byteAt s 0 = (byt s 0 : Int) from b0, show byteAt s 1 = (byt s 1 : Int) from b1, show byteAt s 2 = (byt s 2 : Int) from b2, show byteAt s 3 = (byt s 3 : Int) from b3, e]
  revert l0 l1 l2 l3
  generalize byt s 0 = a0
  generalize byt s 1 = a1
  generalize byt s 2 = a2
  generalize byt s 3 = a3
  intro l0 l1 l2 l3
  have p24 : (2 : Int) ^ min (Int.toNat 24) 32 = 16777216 := rfl
  have p16 : (2 : Int) ^ min (Int.toNat 16) 32 = 65536 := rfl
  have p8 : (2 : Int) ^ min (Int.toNat 8) 32 = 256 := rfl
  have m0 : IntKind.u32.wrap (IntKind.u32.wrap (a0 : Int) * 16777216) = ((a0 * 16777216 : Nat) : Int) := by rw [wrap_u32 (x := (a0 : Int)) (by omega) (by omega), wrap_u32 (by omega) (by omega)]; omega
  have m1 : IntKind.u32.wrap (IntKind.u32.wrap (a1 : Int) * 65536) = ((a1 * 65536 : Nat) : Int) := by rw [wrap_u32 (x := (a1 : Int)) (by omega) (by omega), wrap_u32 (by omega) (by omega)]; omega
  have m2 : IntKind.u32.wrap (IntKind.u32.wrap (a2 : Int) * 256) = ((a2 * 256 : Nat) : Int) := by rw [wrap_u32 (x := (a2 : Int)) (by omega) (by omega), wrap_u32 (by omega) (by omega)]; omega
  have o1 : (a0 * 16777216) ||| (a1 * 65536) = a0 * 16777216 + a1 * 65536 := by
    have := Nat.two_pow_add_eq_or_of_lt (i := 24) (b := a1 * 65536) (by omega) a0
    rw [Nat.mul_comm] at this; exact this.symm
  have o2 : (a0 * 16777216 + a1 * 65536) ||| (a2 * 256) = a0 * 16777216 + a1 * 65536 + a2 * 256 := by
    have := Nat.two_pow_add_eq_or_of_lt (i := 16) (b := a2 * 256) (by omega) (a0 * 256 + a1)
    rw [show 2 ^ 16 * (a0 * 256 + a1) = a0 * 16777216 + a1 * 65536 by omega] at this; exact this.symm
  have o3 : (a0 * 16777216 + a1 * 65536 + a2 * 256) ||| a3 = a0 * 16777216 + a1 * 65536 + a2 * 256 + a3 := by
    have := Nat.two_pow_add_eq_or_of_lt (i := 8) (b := a3) (by omega) (a0 * 65536 + a1 * 256 + a2)
    rw [show 2 ^ 8 * (a0 * 65536 + a1 * 256 + a2) = a0 * 16777216 + a1 * 65536 + a2 * 256 by omega] at this; exact this.symm
  rw [p24, p16, p8, m0, m1, m2, wrap_u32 (x := (a3 : Int)) (by omega) (by omega), or_nat 32 _ _ (by omega) (by omega), o1, wrap_u32 (x := ((a0 * 16777216 + a1 * 65536 : Nat) : Int)) (by omega) (by omega),
    or_nat 32 _ _ (by omega) (by omega), o2, wrap_u32 (x := ((a0 * 16777216 + a1 * 65536 + a2 * 256 : Nat) : Int)) (by omega) (by omega), or_nat 32 _ _ (by omega) (by omega), o3, wrap_u32 (by omega) (by omega)]

theorem rot_eq (x : W) {s : Nat} (h : s < 32) : IntKind.u32.wrap (↑((BitVec.ofInt 32 (IntKind.u32.wrap ((x.toNat : Int) * 2 ^ min s 32)) ||| BitVec.ofInt 32 (Int.fdiv (x.toNat : Int) (2 ^ min (32 - s) 32))).toNat) : Int) = ((rotl x s).toNat : Int) := by
  rw [u_shl x s (by omega), u_shr x (32 - s) (by omega), u_of, u_of, u_wrap]; rfl

theorem rot_spec (x : W) (k : Int) (s : Nat) (hs : s < 32) (hk : k % 18446744073709551616 % 32 = (s : Int)) (w : World) :
    Calls Tryz.prog F_bits_RotateLeft32 #[.int .u32 (x.toNat : Int), .int .i64 k] w fun e w' => e = .returned (.int .u32 ((rotl x s).toNat : Int)) ∧ w' = w := by
  refine vc_bits_RotateLeft32_ok (R := fun v w' => v = .int .u32 ((rotl x s).toNat : Int) ∧ w' = w) ?_ (fun v w' h => ⟨by rw [h.1], h.2⟩)
  rw [vc_bits_RotateLeft32, wrap_u64_mod k]
  obtain ⟨n, hn⟩ := Int.eq_ofNat_of_zero_le (Int.emod_nonneg k (show (18446744073709551616 : Int) ≠ 0 by decide))
  have hlt : k % 18446744073709551616 < 18446744073709551616 := Int.emod_lt_of_pos _ (by decide)
  rw [hn] at hk hlt ⊢
  have e1 : (BitVec.ofInt 64 31) = BitVec.ofInt 64 ((31 : Nat) : Int) := rfl
  have e2 : n &&& 31 = s := by
    have := Nat.and_two_pow_sub_one_eq_mod n 5
    rw [show 2 ^ 5 - 1 = 31 from rfl] at this
    rw [this]; omega
  rw [e1, and_nat 64 _ _ (by omega) (by omega), e2, wrap_u64 (x := (s : Int)) (by omega) (by omega), wrap_u64 (x := 32 - (s : Int)) (by omega) (by omega)]
  refine ⟨by omega, by omega, ?_, rfl⟩
  rw [Int.toNat_natCast, show (32 - (s : Int)).toNat = 32 - s by omega, rot_eq x hs]
end Go.Proofs.YtfoeooddnmppnaaGreatDoor

/- Arrays of words, in plain and in memory. No condition. -/
set_option linter.unusedVariables false
namespace Go.Proofs.YtfoeooddnmppnaaGreatDoor
open Go Vc ShaM Go.Proofs

theorem ext_toList (s : ByteArray) (a b : Nat) : (s.extract a b).data.toList = (s.data.toList.drop a).take (b - a) := by
  rw [ByteArray.data_extract, Array.toList_extract]
theorem be_drop (l : List UInt8) (a : Nat) : be (l.drop a) 0 = be l a := by
  unfold be; simp [List.getD_eq_getElem?_getD, List.getElem?_drop]
theorem neg32 : BitVec.ofInt 32 (if IntKind.signed IntKind.u32 = true then -1 else Int.ofNat (2 ^ 32 - Nat.succ 0)) = BitVec.allOnes 32 := by decide
theorem ones32 : BitVec.ofInt 32 4294967295 = BitVec.allOnes 32 := by decide

/-- The array of a schedule while it is made. -/
def arr (E : Nat → List W) (n k : Nat) : List W := E k ++ List.replicate (n - k) 0
theorem arr_set {E : Nat → List W} {n k : Nat} {x : W} (hE : (E k).length = k) (hk : k < n) (h : E (k + 1) = E k ++ [x]) : (arr E n k).set k x = arr E n (k + 1) := by
  unfold arr
  rw [List.set_append_right _ _ (by omega), hE, Nat.sub_self, h, List.append_assoc, show n - k = (n - (k + 1)) + 1 by omega, List.replicate_succ]
  rfl
theorem arr_length {E : Nat → List W} {n k : Nat} (hE : (E k).length = k) (hk : k ≤ n) : (arr E n k).length = n := by
  unfold arr; rw [List.length_append, List.length_replicate]; omega
theorem arr_getD {E : Nat → List W} {n k j : Nat} (hE : (E k).length = k) (hj : j < k) : (arr E n k).getD j 0 = (E k).getD j 0 := by
  unfold arr
  rw [List.getD_eq_getElem?_getD, List.getElem?_append_left (by omega), List.getD_eq_getElem?_getD]
theorem own_get {w : World} {base : Nat} {e : TypeId} {l : Sl} {xs : List W} (h : Vc.Own w base e l (uv xs)) {i : Nat} (hi : i < xs.length) : ∃ x, l.a = some x ∧ w.cell? (x.add i) = some (.int .u32 ((xs.getD i 0).toNat : Int)) :=
  h.reads i _ (uv_get hi)
theorem own_put {w : World} {base : Nat} {e : TypeId} {l : Sl} {xs : List W} (h : Vc.Own w base e l (uv xs)) {i : Nat} (hi : i < xs.length) (x : W) :
    ∃ y, l.a = some y ∧ Wr w (y.add i) ∧ ∀ w2, w2 = w.setCell (y.add i) (.int .u32 (x.toNat : Int)) → Vc.Own w2 base e l (uv (xs.set i x)) ∧ Fr (Vc.At l) w w2 := by
  obtain ⟨y, hy, hc, hw, hs⟩ := h.set (i := i) (by rw [uv_len]; exact hi)
  refine ⟨y, hy, hw, fun w2 hw2 => ?_⟩
  obtain ⟨h1, h2⟩ := hs (.int .u32 (x.toNat : Int))
  rw [hw2]
  exact ⟨by rw [uv, List.map_set]; exact h1, h2⟩

theorem f1_eq (i : Nat) (b c d : W) : (i < 20 → f1 i b c d = (b &&& c) ||| (~~~b &&& d) ∧ k1 i = 0x5a827999#32) ∧ (20 ≤ i → i < 40 → f1 i b c d = b ^^^ c ^^^ d ∧ k1 i = 0x6ed9eba1#32) ∧
    (40 ≤ i → i < 60 → f1 i b c d = (b &&& c) ||| (b &&& d) ||| (c &&& d) ∧ k1 i = 0x8f1bbcdc#32) ∧ (60 ≤ i → f1 i b c d = b ^^^ c ^^^ d ∧ k1 i = 0xca62c1d6#32) := by
  unfold f1 k1
  refine ⟨fun h => ?_, fun h h2 => ?_, fun h h2 => ?_, fun h => ?_⟩
  · rw [if_pos h, if_pos h]; exact ⟨rfl, rfl⟩
  · rw [if_neg (by omega), if_pos h2, if_neg (by omega), if_pos h2]; exact ⟨rfl, rfl⟩
  · rw [if_neg (by omega), if_neg (by omega), if_pos h2, if_neg (by omega), if_neg (by omega), if_pos h2]; exact ⟨rfl, rfl⟩
  · rw [if_neg (by omega), if_neg (by omega), if_neg (by omega), if_neg (by omega), if_neg (by omega), if_neg (by omega)]; exact ⟨rfl, rfl⟩

end Go.Proofs.YtfoeooddnmppnaaGreatDoor

/- Words in a row, stored; sums of words. No condition. -/
set_option linter.unusedVariables false
namespace Go.Proofs.YtfoeooddnmppnaaGreatDoor
open Go Vc ShaM Go.Proofs

theorem one_uv (l : List W) : ∀ u ∈ uv l, u.oneCell' = true := fun u h => by
  obtain ⟨b, _, rfl⟩ := List.mem_map.1 h; rfl
theorem setRow_fr (X : Nat → Prop) (w : World) (g : Nat) (cs : Array Value) (h : X g) : Fr X w (w.setRow g cs) :=
  ⟨rfl, rfl, rfl, by simp [World.setRow], fun k _ hx => by
    simp only [World.setRow, Array.getElem?_modify]
    rw [if_neg (fun e => hx (by rw [← e]; exact h))]⟩
/-- A whole array stored. -/
theorem store_arr {P : Program} {w : World} {base g n : Nat} {e t : TypeId} {xs ys : List W} (h : Vc.Own w base e ⟨some ⟨g, 0, none⟩, n, n⟩ (uv xs)) (hy : ys.length = n) (hi : (P.info? t).map (·.size) = some n) :
    ∃ w', (storeVar t ⟨g, 0, none⟩ (.agg (uv ys).toArray)).run P w = .ok () w' ∧ Vc.Own w' base e ⟨some ⟨g, 0, none⟩, n, n⟩ (uv ys) ∧ Fr (· = g) w w' := by
  have hn := h.1
  rcases h.2 with ⟨ha, _⟩ | ⟨g', cur, ha, hb, hg, hl, hm, hs, ht⟩
  · cases ha
  · cases ha
    have hr := run_storeVar_row (P := P) w g e t cur (uv ys).toArray hg (by rw [hi, List.size_toArray, uv_len, hy]) (by simp [hy]; exact hs)
      (by rw [Array.all_eq_true_iff_forall_mem]; intro v hv; exact one_uv ys v (by simpa using hv))
    refine ⟨_, hr, ⟨by rw [uv_len, hy], .inr ⟨g, _, rfl, hb, setRow_heap w g cur _ e (0, 0) hg, hl, hm, by rw [List.size_toArray, uv_len, hy], ?_⟩⟩, setRow_fr _ w g _ rfl⟩
    exact List.take_of_length_le (by simp [hy])
set_option maxRecDepth 100000 in
theorem adds_zip : ∀ (h v : List W), adds h v = List.zipWith (· + ·) h v
  | [], _ => by simp [adds]
  | a :: h, [] => by simp [adds]
  | a :: h, b :: v => by simp [adds, adds_zip h v]
/-- The words while they are added. -/
def mix (h v : List W) (i : Nat) : List W := (adds h v).take i ++ h.drop i
theorem mix_next {h v : List W} {i : Nat} (hl : h.length = v.length) (hi : i < h.length) : (mix h v i).set i (h.getD i 0 + v.getD i 0) = mix h v (i + 1) ∧ (mix h v i).getD i 0 = h.getD i 0 ∧ (mix h v i).length = h.length := by
  have hal : (adds h v).length = h.length := by rw [adds_zip, List.length_zipWith]; omega
  have htl : ((adds h v).take i).length = i := by rw [List.length_take]; omega
  have hx : (adds h v)[i]'(by omega) = h.getD i 0 + v.getD i 0 := by
    simp only [adds_zip, List.getElem_zipWith, List.getD_eq_getElem?_getD, List.getElem?_eq_getElem hi, List.getElem?_eq_getElem (show i < v.length by omega), Option.getD_some]
  refine ⟨?_, ?_, ?_⟩
  · unfold mix
    rw [List.set_append_right _ _ (by omega), htl, Nat.sub_self, List.take_succ_eq_append_getElem (by omega), hx, List.append_assoc, List.drop_eq_getElem_cons hi]
    rfl
  · unfold mix
    rw [List.getD_eq_getElem?_getD, List.getElem?_append_right (by omega), htl, Nat.sub_self, List.getElem?_drop]
    rw [List.getD_eq_getElem?_getD]; rfl
  · unfold mix
    rw [List.length_append, List.length_drop, htl]; omega
end Go.Proofs.YtfoeooddnmppnaaGreatDoor

/- The table of SHA-256, in plain. No condition. -/
set_option linter.unusedVariables false
namespace ShaM
open Go
/-- The high half of a product, as the reference reckons it. -/
def mulHi (a b : Int) : Int := (IntKind.wrap IntKind.u64 (IntKind.wrap IntKind.u64 (IntKind.wrap IntKind.u64 (Int.fdiv a (2 ^ min (Int.toNat 32) 64) * Int.fdiv b (2 ^ min (Int.toNat 32) 64)) + Int.fdiv (IntKind.wrap IntKind.u64 (IntKind.wrap IntKind.u64 (IntKind.wrap IntKind.u64 (↑(BitVec.toNat (BitVec.ofInt 64 a &&& BitVec.ofInt 64 4294967295)) : Int) * Int.fdiv b (2 ^ min (Int.toNat 32) 64)) + Int.fdiv (IntKind.wrap IntKind.u64 (IntKind.wrap IntKind.u64 (↑(BitVec.toNat (BitVec.ofInt 64 a &&& BitVec.ofInt 64 4294967295)) : Int) * IntKind.wrap IntKind.u64 (↑(BitVec.toNat (BitVec.ofInt 64 b &&& BitVec.ofInt 64 4294967295)) : Int))) (2 ^ min (Int.toNat 32) 64))) (2 ^ min (Int.toNat 32) 64)) + Int.fdiv (IntKind.wrap IntKind.u64 (IntKind.wrap IntKind.u64 (Int.fdiv a (2 ^ min (Int.toNat 32) 64) * IntKind.wrap IntKind.u64 (↑(BitVec.toNat (BitVec.ofInt 64 b &&& BitVec.ofInt 64 4294967295)) : Int)) + IntKind.wrap IntKind.u64 (↑(BitVec.toNat (BitVec.ofInt 64 (IntKind.wrap IntKind.u64 (IntKind.wrap IntKind.u64 (IntKind.wrap IntKind.u64 (↑(BitVec.toNat (BitVec.ofInt 64 a &&& BitVec.ofInt 64 4294967295)) : Int) * Int.fdiv b (2 ^ min (Int.toNat 32) 64)) + Int.fdiv (IntKind.wrap IntKind.u64 (IntKind.wrap IntKind.u64 (↑(BitVec.toNat (BitVec.ofInt 64 a &&& BitVec.ofInt 64 4294967295)) : Int) * IntKind.wrap IntKind.u64 (↑(BitVec.toNat (BitVec.ofInt 64 b &&& BitVec.ofInt 64 4294967295)) : Int))) (2 ^ min (Int.toNat 32) 64))) &&& BitVec.ofInt 64 4294967295)) : Int))) (2 ^ min (Int.toNat 32) 64)))
def mulLo (a b : Int) : Int := IntKind.wrap IntKind.u64 (a * b)
def under3 (y p : Int) : Bool :=
  let hi := mulHi y y
  let lo := mulLo y y
  let a := mulHi lo y
  let b := mulLo lo y
  let c0 := mulHi hi y
  let d := mulLo hi y
  let sum := IntKind.wrap IntKind.u64 (d + a)
  let c := if sum < d then IntKind.wrap IntKind.u64 (c0 + 1) else c0
  let ph := Int.fdiv p (2 ^ min (Int.toNat 32) 64)
  let pl := IntKind.wrap IntKind.u64 (p * 2 ^ min (Int.toNat 32) 64)
  if c > 0 then (if ph > c then true else if ph == c then decide (pl > sum) else false) else (if sum < pl then true else if sum == pl then b == 0 else false)
def under2 (y p : Int) : Bool := if mulHi y y < p then true else if mulHi y y == p then mulLo y y == 0 else false
def rootI (under : Int → Int → Bool) (p : Int) : Nat → Int → Int
  | 0, x => x
  | b + 1, x => match under (IntKind.wrap IntKind.u64 (x + IntKind.wrap IntKind.u64 (1 * 2 ^ min (Int.toNat (b : Int)) 64))) p with
    | true => rootI under p b (IntKind.wrap IntKind.u64 (x + IntKind.wrap IntKind.u64 (1 * 2 ^ min (Int.toNat (b : Int)) 64)))
    | false => rootI under p b x
def root3 (p : Int) : Int := IntKind.wrap IntKind.u32 (rootI under3 p 41 0)
def root2 (p : Int) : Int := IntKind.wrap IntKind.u32 (rootI under2 p 41 0)
/-- The primes below p + 2. -/
def primesTo : Nat → List Nat
  | 0 => []
  | p + 1 => match (primesTo p).all (fun q => (p + 2) % q != 0) with
    | true => primesTo p ++ [p + 2]
    | false => primesTo p
def K256 : List W := ((primesTo 310).map fun p : Nat => BitVec.ofInt 32 (root3 (p : Int)))
end ShaM
namespace Go.Proofs.YtfoeooddnmppnaaGreatDoor
open Go Vc ShaM Go.Proofs

theorem primes_mono (k : Nat) : ∀ d, primesTo k <+: primesTo (k + d)
  | 0 => List.prefix_refl _
  | d + 1 => by
    refine (primes_mono k d).trans ?_
    rw [← Nat.add_assoc, primesTo]
    split
    · exact List.prefix_append _ _
    · exact List.prefix_refl _
theorem primes_pos : ∀ k, ∀ q ∈ primesTo k, 2 ≤ q
  | 0, q, h => by cases h
  | k + 1, q, h => by
    rw [primesTo] at h
    split at h
    · rcases List.mem_append.1 h with h | h
      · exact primes_pos k q h
      · rw [List.mem_singleton] at h; omega
    · exact primes_pos k q h
theorem primes_le : ∀ k, ∀ q ∈ primesTo k, q ≤ k + 1
  | 0, q, h => by cases h
  | k + 1, q, h => by
    rw [primesTo] at h
    split at h
    · rcases List.mem_append.1 h with h | h
      · have := primes_le k q h; omega
      · rw [List.mem_singleton] at h; omega
    · have := primes_le k q h; omega
theorem primes_64 : (primesTo 310).length = 64 := by decide +kernel
theorem root_bv (z : Int) : ((BitVec.ofInt 32 (IntKind.u32.wrap z)).toNat : Int) = IntKind.u32.wrap z := by
  rw [BitVec.toNat_ofInt, wrap_u32_mod]
  have h0 := Int.emod_nonneg z (show (4294967296 : Int) ≠ 0 by decide)
  have h1 := Int.emod_lt_of_pos z (show (0 : Int) < 4294967296 by decide)
  have : (z % 4294967296) % ((2 ^ 32 : Nat) : Int) = z % 4294967296 := Int.emod_eq_of_lt h0 h1
  rw [this]; omega
end Go.Proofs.YtfoeooddnmppnaaGreatDoor

/- What table256 and block256 of the package sha do. Conditions: the words are eight, in a slice of the call's own; the text has 64 bytes. -/
set_option linter.unusedVariables false
namespace Go.Proofs.YtfoeooddnmppnaaGreatDoor
open Go Vc ShaM Go.Proofs

theorem K256_len : K256.length = 64 := by decide +kernel
/-- 'table256'. -/
theorem table256_spec (w : World) : Calls Tryz.prog F_sha_table256 #[] w fun e w' => e = .returned (.agg (uv K256).toArray) ∧ Fr (fun _ => False) w w' := by
  refine vc_sha_table256_ok (R := fun v w' => v = .agg (uv K256).toArray ∧ Fr (fun _ => False) w w') ?_ (fun v w' h => ⟨by rw [h.1], h.2⟩)
  intro w1 hw1
  have o1 : Vc.Own w1 w.heap.size T_64_uint32 ⟨some ⟨w.heap.size, 0, none⟩, 64, 64⟩ (uv (List.replicate 64 0)) :=
    ⟨rfl, .inr ⟨w.heap.size, _, rfl, Nat.le_refl _, by rw [hw1]; exact alloc_new _ _, Nat.le_refl _, by simp [maxLen], rfl, rfl⟩⟩
  have f1 : Fr (fun _ => False) w w1 := hw1 ▸ Fr.alloc _ _ _
  obtain ⟨w2, hr, o2, f2⟩ := store_arr (P := Tryz.prog) (t := T_64_uint32) o1 K256_len (by kernel_rfl)
  refine ⟨w2, Eq.mp (by kernel_rfl) hr, ?_⟩
  have hload := load_agg (P := Tryz.prog) (t := T_64_uint32) (w := w2) (a := ⟨w.heap.size, 0, none⟩) (vs := uv K256) (agg_of (by kernel_rfl)) (by rw [uv_len, K256_len]; kernel_rfl) (fun j v hv => by
    obtain ⟨y, hy, hc⟩ := o2.reads j v hv
    cases hy; exact hc)
  exact ⟨_, hload, rfl, f1.trans f2 (fun q hq h => by omega)⟩

theorem shr3 (x : W) : Int.fdiv (x.toNat : Int) (2 ^ min (Int.toNat 3) 32) = ((x >>> 3).toNat : Int) := u_shr x 3 (by decide)
theorem shr10 (x : W) : Int.fdiv (x.toNat : Int) (2 ^ min (Int.toNat 10) 32) = ((x >>> 10).toNat : Int) := u_shr x 10 (by decide)

theorem block256_spec {w : World} {base : Nat} {l : Sl} {h : List W} (ho : Vc.Own w base T_uint32 l (uv h)) (hl : h.length = 8) (p : ByteArray) (hp : p.size = 64) :
    Calls Tryz.prog F_sha_block256 #[.slice l.a l.len l.cap, .string p] w fun e w' => e = .returned (.tuple #[]) ∧ Vc.Own w' base T_uint32 l (uv (block2 K256 h p.data.toList)) ∧ Fr (Vc.At l) w w' := by
  refine vc_sha_block256_ok (R := fun v w' => v = .tuple #[] ∧ Vc.Own w' base T_uint32 l (uv (block2 K256 h p.data.toList)) ∧ Fr (Vc.At l) w w') ?_ (fun v w' h => ⟨by rw [h.1], h.2⟩)
  intro w1 hw1
  have f1' : Fr (fun _ => False) w w1 := hw1 ▸ Fr.alloc _ _ _
  generalize hB : w.heap.size = wb at hw1
  obtain ⟨P, hPd⟩ : ∃ P, p.data.toList = P := ⟨_, rfl⟩
  rw [hPd]
  have hE : ∀ k, (E2 P k).length = k := E2_length P
  have hK := K256_len
  have o1 : Vc.Own w1 wb T_64_uint32 ⟨some ⟨wb, 0, none⟩, 64, 64⟩ (uv (arr (E2 P) 64 0)) :=
    ⟨rfl, .inr ⟨wb, _, rfl, Nat.le_refl _, by rw [hw1, ← hB]; exact alloc_new _ _, Nat.le_refl _, by simp [maxLen], rfl, rfl⟩⟩
  have hlen : l.len = 8 := by rw [ho.len, uv_len, hl]
  have hlb : ∀ x, l.a = some x → x.block < wb := fun x hx => by rw [← hB]; exact (ho.blk hx).2
  have hsz1 : w1.heap.size = wb + 1 := by rw [hw1, ← hB]; simp
  refine (table256_spec w1).mono ?_
  rintro e w3 ⟨rfl, f3⟩
  refine ⟨_, rfl, ?_⟩
  intro w5 hw5
  have f5 : Fr (fun _ => False) w3 w5 := hw5 ▸ Fr.alloc _ _ _
  have hz5 := alloc_new w3 (.cells (uv (List.replicate 64 0)).toArray T_64_uint32)
  generalize hKb : w3.heap.size = kb at hw5 hz5
  have hkb : wb < kb := by have := f3.size; omega
  have o5 : Vc.Own w5 kb T_64_uint32 ⟨some ⟨kb, 0, none⟩, 64, 64⟩ (uv (List.replicate 64 0)) :=
    ⟨rfl, .inr ⟨kb, _, rfl, Nat.le_refl _, by rw [hw5, ← hKb]; exact alloc_new _ _, Nat.le_refl _, by simp [maxLen], rfl, rfl⟩⟩
  obtain ⟨K, hKd⟩ : ∃ K, K256 = K := ⟨_, rfl⟩
  rw [hKd] at hK ⊢
  obtain ⟨w6, hr6, oK, f6⟩ := store_arr (P := Tryz.prog) (t := T_64_uint32) o5 hK (by kernel_rfl)
  refine ⟨w6, hr6, ?_⟩
  have hkb5 : kb < w5.heap.size := (o5.blk rfl).2
  have f16 : Fr (fun k => kb ≤ k) w1 w6 := ((f3.mono (by simp)).trans' (f5.mono (by simp))).trans f6 (fun q hq h => by omega)
  have o6 : Vc.Own w6 wb T_64_uint32 ⟨some ⟨wb, 0, none⟩, 64, 64⟩ (uv (arr (E2 P) 64 0)) := o1.keep f16 (fun x hx h => by cases hx; simp only at h; omega)
  have f06 : Fr (fun _ => False) w w6 := f1'.trans f16 (fun q hq h => by omega)
  have hwk : ∀ {w' w2 : World}, Fr (Vc.At ⟨some ⟨wb, 0, none⟩, 64, 64⟩) w' w2 → Vc.Own w' kb T_64_uint32 ⟨some ⟨kb, 0, none⟩, 64, 64⟩ (uv K) → Vc.Own w2 kb T_64_uint32 ⟨some ⟨kb, 0, none⟩, 64, 64⟩ (uv K) := fun {w' w2} hf o =>
    o.keep hf (fun x hx ⟨y, hy, e⟩ => by cases hx; cases hy; simp only at e; omega)
  have hX : ∀ {w' : World}, Fr (fun _ => False) w w' → ∀ {w2 : World}, Fr (Vc.At ⟨some ⟨wb, 0, none⟩, 64, 64⟩) w' w2 → Fr (fun _ => False) w w2 := fun {w'} hf {w2} h2 => hf.trans h2 fun q hq ⟨y, hy, e⟩ => by cases hy; simp only at e; omega
  refine ⟨fun i w' => ∃ k : Nat, k ≤ 64 ∧ i = (k : Int) ∧ Vc.Own w' wb T_64_uint32 ⟨some ⟨wb, 0, none⟩, 64, 64⟩ (uv (arr (E2 P) 64 k)) ∧ Vc.Own w' kb T_64_uint32 ⟨some ⟨kb, 0, none⟩, 64, 64⟩ (uv K) ∧ Fr (fun _ => False) w w', fun i _ => (64 - i).toNat,
    ⟨0, by decide, rfl, o6, oK, f06⟩, ?_⟩
  rintro i w10 ⟨k, hk, rfl, o10, oK10, f10⟩
  have hAl := arr_length (n := 64) (hE k) hk
  have e1 : IntKind.i64.wrap ((k : Int) + 1) = ((k + 1 : Nat) : Int) := by rw [wrap_i64 (by omega) (by omega)]; omega
  refine ⟨fun hlt => ?_, fun hge => ?_⟩
  · have hlt := of_decide_eq_true hlt
    have hk64 : k < 64 := by omega
    refine ⟨fun h16 => ?_, fun h16 => ?_⟩
    · have h16 := of_decide_eq_true h16
      have e4 : IntKind.i64.wrap (4 * (k : Int)) = ((4 * k : Nat) : Int) := by rw [wrap_i64 (by omega) (by omega)]; omega
      rw [e4, Int.toNat_natCast]
      refine ⟨⟨by omega, by omega⟩, ?_⟩
      refine (word_spec _ (by rw [ByteArray.size_extract]; omega) w10).mono ?_
      rintro e w12 ⟨rfl, d12⟩
      refine ⟨_, rfl, ⟨by omega, by omega⟩, ?_⟩
      have hx : be (p.extract (4 * k) p.size).data.toList 0 = be P (4 * k) := by
        rw [ext_toList, hPd, List.take_of_length_le (by rw [List.length_drop, ← hPd]; simp), be_drop]
      rw [hx, Int.toNat_natCast, Nat.mul_one, e1]
      obtain ⟨y, hy, hwr, hset⟩ := own_put (o10.drew d12) (i := k) (by omega) (be P (4 * k))
      cases hy
      refine ⟨hwr, fun w14 hw14 => ?_⟩
      obtain ⟨o14, f14⟩ := hset w14 hw14
      rw [arr_set (hE k) hk64 (E2_low P (by omega))] at o14
      exact ⟨⟨k + 1, by omega, rfl, o14, hwk f14 (oK10.drew d12), hX (f10.trans' (.drew _ d12)) f14⟩, by dsimp only; omega⟩
    · have h16 := of_decide_eq_false h16
      have g : ∀ {w' : World}, Vc.Own w' wb T_64_uint32 ⟨some ⟨wb, 0, none⟩, 64, 64⟩ (uv (arr (E2 P) 64 k)) → ∀ j, j < k → w'.cell? (Addr.add ⟨wb, 0, none⟩ j) = some (.int .u32 (((E2 P k).getD j 0).toNat : Int)) := fun {w'} o j hj => by
        obtain ⟨y, hy, hc⟩ := own_get o (i := j) (by omega)
        cases hy
        rw [arr_getD (hE k) hj] at hc; exact hc
      have r15 : IntKind.i64.wrap ((k : Int) - 15) = ((k - 15 : Nat) : Int) := by rw [wrap_i64 (by omega) (by omega)]; omega
      have r2 : IntKind.i64.wrap ((k : Int) - 2) = ((k - 2 : Nat) : Int) := by rw [wrap_i64 (by omega) (by omega)]; omega
      have r16 : IntKind.i64.wrap ((k : Int) - 16) = ((k - 16 : Nat) : Int) := by rw [wrap_i64 (by omega) (by omega)]; omega
      have r7 : IntKind.i64.wrap ((k : Int) - 7) = ((k - 7 : Nat) : Int) := by rw [wrap_i64 (by omega) (by omega)]; omega
      rw [r15, r2, r16, r7, e1]
      simp only [Int.toNat_natCast, Nat.mul_one]
      refine ⟨⟨by omega, by omega⟩, _, g o10 _ (by omega), ⟨by omega, by omega⟩, _, g o10 _ (by omega), fun w17 d17 w18 d18 => ?_⟩
      have o18 := (o10.drew d17).drew d18
      have oK18 := (oK10.drew d17).drew d18
      refine ⟨fun w => w = w18, rfl, ⟨by omega, by omega⟩, _, fun w hw => by rw [hw]; exact g o18 _ (by omega), by decide, ⟨by omega, by omega⟩, _, fun w hw => by rw [hw]; exact g o18 _ (by omega), by decide, ?_⟩
      refine (rot_spec _ (-7) 25 (by decide) (by decide) w18).mono ?_
      rintro e w25 ⟨rfl, rfl⟩
      refine ⟨_, rfl, rfl, ?_⟩
      refine (rot_spec _ (-18) 14 (by decide) (by decide) w25).mono ?_
      rintro e w28 ⟨rfl, rfl⟩
      refine ⟨_, rfl, rfl, ?_⟩
      refine (rot_spec _ (-17) 15 (by decide) (by decide) w28).mono ?_
      rintro e w31 ⟨rfl, rfl⟩
      refine ⟨_, rfl, rfl, ?_⟩
      refine (rot_spec _ (-19) 13 (by decide) (by decide) w31).mono ?_
      rintro e w34 ⟨rfl, rfl⟩
      refine ⟨_, rfl, rfl, ⟨by omega, by omega⟩, ?_⟩
      simp only [u_of, u_wrap, shr3, shr10, u_add]
      rw [← nxt2_at (hE k)]
      obtain ⟨y, hy, hwr, hset⟩ := own_put o18 (i := k) (by omega) (nxt2 (E2 P k))
      cases hy
      refine ⟨hwr, fun w36 hw36 => ?_⟩
      obtain ⟨o36, f36⟩ := hset w36 hw36
      rw [arr_set (hE k) hk64 (E2_high P (by omega))] at o36
      exact ⟨⟨k + 1, by omega, rfl, o36, hwk f36 oK18, hX ((f10.trans' (.drew _ d17)).trans' (.drew _ d18)) f36⟩, by omega⟩
  have hge := of_decide_eq_false hge
  have : k = 64 := by omega
  subst this
  have hfull : arr (E2 P) 64 64 = ext2 48 (words P) := by unfold arr; rw [Nat.sub_self, List.replicate_zero, List.append_nil, E2_ext P (by decide)]
  rw [hfull] at o10 hAl
  have hb2 : block2 K h P = adds h (rds2 K (ext2 48 (words P)) h) := rfl
  rw [hb2]
  generalize ext2 48 (words P) = S at o10 hAl ⊢
  have hKg : w10.heap.size > kb := (oK10.blk rfl).2
  intro w37 hw37
  have f37 : Fr (fun _ => False) w10 w37 := hw37 ▸ Fr.alloc _ _ _
  have hv37 : w37.heap[w10.heap.size]? = some (.cells (uv (List.replicate 8 0)).toArray T_8_uint32) := by rw [hw37]; exact alloc_new _ _
  generalize hV : w10.heap.size = vb at hw37 hv37 hKg
  have oh37 := (ho.keep f10 (by simp)).keep f37 (by simp)
  obtain ⟨x, hx, _⟩ := own_get oh37 (i := 0) (by omega)
  have hcopy := run_copy_row (P := Tryz.prog) w37 T_S_uint32 T_S_uint32 T_int T_uint32 vb 0 8 8 x l.len l.cap _ T_8_uint32 (uv h) elU32.sl (by kernel_rfl) hv37 (by rw [uv_len, hl, hlen]; rfl) (fun j v hv => by
    obtain ⟨y, hy, hc⟩ := oh37.reads j v hv
    rw [hx] at hy; cases hy; exact hc) (by rw [uv_len, hl]; simp) (one_uv h)
  have hsub : subA (some ⟨vb, 0, none⟩) 8 0 1 = some ⟨vb, 0, none⟩ := rfl
  rw [hsub, hx]
  refine ⟨_, _, hcopy, ?_⟩
  have hrow : ((uv (List.replicate 8 0)).toArray.toList.take 0 ++ uv h ++ (uv (List.replicate 8 (0 : W))).toArray.toList.drop (0 + (uv h).length)).toArray = (uv h).toArray := by
    rw [uv_len, hl]; simp [uv]
  rw [hrow]
  have hv38 := setRow_heap w37 vb _ (uv h).toArray T_8_uint32 (0, 0) hv37
  have f38 : Fr (· = vb) w37 (w37.setRow vb (uv h).toArray) := setRow_fr _ _ _ _ rfl
  generalize w37.setRow vb (uv h).toArray = w38 at hv38 f38
  have oV38 : Vc.Own w38 vb T_8_uint32 ⟨some ⟨vb, 0, none⟩, 8, 8⟩ (uv h) := ⟨by rw [uv_len, hl], .inr ⟨vb, _, rfl, Nat.le_refl _, hv38, Nat.le_refl _, by simp [maxLen], by simp [hl], List.take_of_length_le (by simp [hl])⟩⟩
  have oS38 := (o10.keep f37 (by simp)).keep f38 (fun y hy => by cases hy; simp only; omega)
  have oK38 := (oK10.keep f37 (by simp)).keep f38 (fun y hy => by cases hy; simp only; omega)
  have oh38 := oh37.keep f38 (fun y hy => by have := hlb y hy; omega)
  have f038 : Fr (fun _ => False) w w38 := (f10.trans' f37).trans f38 (fun q hq h => by have := f10.size; omega)
  have f3838 := f38.size
  have f37s := f37.size
  have hvb38 : vb < w38.heap.size := (oV38.blk rfl).2
  refine ⟨fun i w' => ∃ (k : Nat) (v : List W), k ≤ 64 ∧ i = (k : Int) ∧ v.length = 8 ∧ rds2 K S h = rds2 (K.drop k) (S.drop k) v ∧ Vc.Own w' vb T_8_uint32 ⟨some ⟨vb, 0, none⟩, 8, 8⟩ (uv v) ∧ Fr (· = vb) w38 w', fun i _ => (64 - i).toNat,
    ⟨0, h, by decide, rfl, hl, rfl, oV38, .refl _ _⟩, ?_⟩
  rintro i w43 ⟨k, v, hk, rfl, hvl, hv, oV, f43⟩
  refine ⟨fun hlt => ?_, fun hge => ?_⟩
  · have hlt := of_decide_eq_true hlt
    have e1 : IntKind.i64.wrap ((k : Int) + 1) = ((k + 1 : Nat) : Int) := by rw [wrap_i64 (by omega) (by omega)]; omega
    obtain ⟨a, b, c, d, e, f, g, q, rfl⟩ : ∃ a b c d e f g q, v = [a, b, c, d, e, f, g, q] := by
      match v, hvl with
      | [a, b, c, d, e, f, g, q], _ => exact ⟨_, _, _, _, _, _, _, _, rfl⟩
    have gv : ∀ {w' : World}, Vc.Own w' vb T_8_uint32 ⟨some ⟨vb, 0, none⟩, 8, 8⟩ (uv [a, b, c, d, e, f, g, q]) → ∀ j, j < 8 → w'.cell? (Addr.add ⟨vb, 0, none⟩ (j * 1)) = some (.int .u32 ((([a, b, c, d, e, f, g, q] : List W).getD j 0).toNat : Int)) := fun {w'} o j hj => by
      obtain ⟨y, hy, hc⟩ := own_get o (i := j) hj
      cases hy; rw [Nat.mul_one]; exact hc
    have hstep : rds2 (K.drop k) (S.drop k) [a, b, c, d, e, f, g, q] = rds2 (K.drop (k + 1)) (S.drop (k + 1)) (rd2 (K.getD k 0) (S.getD k 0) [a, b, c, d, e, f, g, q]) := by
      have hkK : k < K.length := by omega
      have hkS : k < S.length := by omega
      rw [List.drop_eq_getElem_cons hkK, List.drop_eq_getElem_cons hkS]
      simp [rds2, hkK, hkS]
    rw [e1]
    refine ⟨⟨by decide, by decide⟩, _, gv oV 0 (by decide), ⟨by decide, by decide⟩, _, gv oV 4 (by decide), fun w46 d46 w47 d47 => ?_⟩
    have oV47 := (oV.drew d46).drew d47
    have f47 := (f43.trans' (.drew _ d46)).trans' (.drew _ d47)
    have oK47 : Vc.Own w47 kb T_64_uint32 ⟨some ⟨kb, 0, none⟩, 64, 64⟩ (uv K) := oK38.keep f47 (fun y hy => by cases hy; simp only; omega)
    have oS47 : Vc.Own w47 wb T_64_uint32 ⟨some ⟨wb, 0, none⟩, 64, 64⟩ (uv S) := oS38.keep f47 (fun y hy => by cases hy; simp only; omega)
    obtain ⟨y, hy, hcK⟩ := own_get oK47 (i := k) (by omega)
    cases hy
    obtain ⟨y, hy, hcS⟩ := own_get oS47 (i := k) (by omega)
    cases hy
    refine ⟨fun w => w = w47, rfl, ⟨by decide, by decide⟩, _, fun w hw => by rw [hw]; exact gv oV47 7 (by decide), ⟨by decide, by decide⟩, _, fun w hw => by rw [hw]; exact gv oV47 5 (by decide), ⟨by decide, by decide⟩, _, fun w hw => by rw [hw]; exact gv oV47 6 (by decide),
      ⟨by omega, by omega⟩, _, fun w hw => by rw [hw, Int.toNat_natCast, Nat.mul_one]; exact hcK, ⟨by omega, by omega⟩, _, fun w hw => by rw [hw, Int.toNat_natCast, Nat.mul_one]; exact hcS, ?_⟩
    refine (rot_spec _ (-6) 26 (by decide) (by decide) w47).mono ?_
    rintro e w60 ⟨rfl, rfl⟩
    refine ⟨_, rfl, rfl, ?_⟩
    refine (rot_spec _ (-11) 21 (by decide) (by decide) w60).mono ?_
    rintro e w63 ⟨rfl, rfl⟩
    refine ⟨_, rfl, rfl, ?_⟩
    refine (rot_spec _ (-25) 7 (by decide) (by decide) w63).mono ?_
    rintro e w66 ⟨rfl, rfl⟩
    refine ⟨_, rfl, rfl, ?_⟩
    intro w68 d68
    have oV68 := oV47.drew d68
    refine ⟨fun w => w = w68, rfl, ⟨by decide, by decide⟩, _, fun w hw => by rw [hw]; exact gv oV68 1 (by decide), ⟨by decide, by decide⟩, _, fun w hw => by rw [hw]; exact gv oV68 2 (by decide), ⟨by decide, by decide⟩, _, fun w hw => by rw [hw]; exact gv oV68 1 (by decide),
      ⟨by decide, by decide⟩, _, fun w hw => by rw [hw]; exact gv oV68 2 (by decide), ?_⟩
    refine (rot_spec _ (-2) 30 (by decide) (by decide) w68).mono ?_
    rintro e w79 ⟨rfl, rfl⟩
    refine ⟨_, rfl, rfl, ?_⟩
    refine (rot_spec _ (-13) 19 (by decide) (by decide) w79).mono ?_
    rintro e w82 ⟨rfl, rfl⟩
    refine ⟨_, rfl, rfl, ?_⟩
    refine (rot_spec _ (-22) 10 (by decide) (by decide) w82).mono ?_
    rintro e w85 ⟨rfl, rfl⟩
    refine ⟨_, rfl, rfl, ⟨by decide, by decide⟩, _, gv oV68 0 (by decide), ⟨by decide, by decide⟩, _, gv oV68 1 (by decide), ⟨by decide, by decide⟩, _, gv oV68 2 (by decide), ⟨by decide, by decide⟩, _, gv oV68 3 (by decide), ⟨by decide, by decide⟩, _, gv oV68 4 (by decide),
      ⟨by decide, by decide⟩, _, gv oV68 5 (by decide), ⟨by decide, by decide⟩, _, gv oV68 6 (by decide), ?_⟩
    rw [neg32]
    simp only [u_of, u_wrap, u_add, BitVec.allOnes_xor]
    obtain ⟨w94, hr94, o94, f94⟩ := store_arr (P := Tryz.prog) (t := T_8_uint32) (ys := rd2 (K.getD k 0) (S.getD k 0) [a, b, c, d, e, f, g, q]) oV68 rfl (by kernel_rfl)
    refine ⟨w94, hr94, ⟨k + 1, _, by omega, rfl, rfl, by rw [hv, hstep], o94, ((f47.trans' (.drew _ d68)).trans' f94)⟩, by omega⟩
  have hge := of_decide_eq_false hge
  have : k = 64 := by omega
  subst this
  have hKn : K.drop 64 = [] := List.drop_eq_nil_of_le (by omega)
  have hSn : S.drop 64 = [] := List.drop_eq_nil_of_le (by omega)
  rw [hKn, hSn] at hv
  have hv : rds2 K S h = v := hv
  rw [hv]
  have oh43 := oh38.keep f43 (fun y hy => by have := hlb y hy; omega)
  have f043 : Fr (fun _ => False) w w43 := f038.trans f43 (fun q hq h => by have := f10.size; omega)
  refine ⟨fun i w' => ∃ k : Nat, k ≤ 8 ∧ i = (k : Int) ∧ Vc.Own w' base T_uint32 l (uv (mix h v k)) ∧ Fr (Vc.At l) w43 w', fun i _ => (8 - i).toNat, ⟨0, by decide, rfl, by simpa [mix] using oh43, .refl _ _⟩, ?_⟩
  rintro i w98 ⟨k, hk, rfl, om, f98⟩
  refine ⟨fun hlt => ?_, fun hge => ?_⟩
  · have hlt := of_decide_eq_true hlt
    have e1 : IntKind.i64.wrap ((k : Int) + 1) = ((k + 1 : Nat) : Int) := by rw [wrap_i64 (by omega) (by omega)]; omega
    obtain ⟨m1, m2, m3⟩ := mix_next (h := h) (v := v) (i := k) (by omega) (by omega)
    rw [e1]
    intro w99 d99
    have om99 := om.drew d99
    have oV99 : Vc.Own w99 vb T_8_uint32 ⟨some ⟨vb, 0, none⟩, 8, 8⟩ (uv v) := (oV.keep f98 (fun y hy ⟨z, hz, e⟩ => by cases hy; have := hlb z hz; simp only at e; omega)).drew d99
    obtain ⟨y, hy, hc1⟩ := own_get om99 (i := k) (by omega)
    obtain ⟨z, hz, hc2⟩ := own_get oV99 (i := k) (by omega)
    cases hz
    rw [m2] at hc1
    obtain ⟨y', hy', hwr, hset⟩ := own_put om99 (i := k) (by omega) (h.getD k 0 + v.getD k 0)
    rw [hy] at hy'; cases hy'
    rw [Int.toNat_natCast, Nat.mul_one]
    refine ⟨⟨by omega, by omega⟩, y, hx ▸ hy, _, hc1, ⟨by omega, by omega⟩, _, hc2, ⟨by omega, by omega⟩, y, hx ▸ hy, hwr, ?_⟩
    rw [u_add]
    intro w104 hw104
    obtain ⟨o104, f104⟩ := hset w104 hw104
    rw [m1] at o104
    exact ⟨⟨k + 1, by omega, rfl, o104, (f98.trans' (.drew _ d99)).trans' f104⟩, by dsimp only; omega⟩
  · have hge := of_decide_eq_false hge
    have : k = 8 := by omega
    subst this
    have hmix : mix h v 8 = adds h v := by
      unfold mix
      have hal : (adds h v).length = 8 := by rw [adds_zip, List.length_zipWith]; omega
      rw [List.take_of_length_le (by omega), List.drop_eq_nil_of_le (by omega), List.append_nil]
    rw [hmix] at om
    exact ⟨rfl, om, (f043.mono (by simp)).trans' f98⟩
end Go.Proofs.YtfoeooddnmppnaaGreatDoor

/- Plain facts: a sum is added up text by text. -/
set_option linter.unusedVariables false
namespace ShaM
/-- What waits for a whole block. -/
def rest (t : List UInt8) : List UInt8 := t.drop (64 * (t.length / 64))
/-- The words behind the whole blocks. -/
def stt (f : List W → List UInt8 → List W) (st : List W) (t : List UInt8) : List W := blocks f (t.length / 64) st t
theorem rest_length (t : List UInt8) : (rest t).length = t.length % 64 := by unfold rest; rw [List.length_drop]; omega
theorem blocks_add (f : List W → List UInt8 → List W) : ∀ (a b : Nat) (h : List W) (t : List UInt8), blocks f (a + b) h t = blocks f b (blocks f a h t) (t.drop (64 * a))
  | 0, b, h, t => by simp [blocks]
  | a + 1, b, h, t => by
    rw [show a + 1 + b = (a + b) + 1 by omega]
    simp only [blocks]
    rw [blocks_add f a b, List.drop_drop]
    congr 2; omega
theorem blocks_app (f : List W → List UInt8 → List W) : ∀ (n : Nat) (h : List W) (t u : List UInt8), 64 * n ≤ t.length → blocks f n h (t ++ u) = blocks f n h t
  | 0, h, t, u, _ => rfl
  | n + 1, h, t, u, hl => by
    simp only [blocks]
    rw [List.take_append_of_le_length (by omega), List.drop_append_of_le_length (by omega), blocks_app f n _ _ u (by rw [List.length_drop]; omega)]
theorem step_all (f : List W → List UInt8 → List W) (st : List W) (t x : List UInt8) :
    blocks f ((rest t ++ x).length / 64) (stt f st t) (rest t ++ x) = stt f st (t ++ x) ∧ (rest t ++ x).drop (64 * ((rest t ++ x).length / 64)) = rest (t ++ x) := by
  have h1 : rest t ++ x = (t ++ x).drop (64 * (t.length / 64)) := by unfold rest; rw [List.drop_append_of_le_length (by omega)]
  have h2 : (t ++ x).length / 64 = t.length / 64 + (rest t ++ x).length / 64 := by rw [List.length_append, List.length_append, rest_length]; omega
  constructor
  · unfold stt
    rw [h2, blocks_add, blocks_app f _ _ t x (by omega), h1]
  · show _ = (t ++ x).drop (64 * ((t ++ x).length / 64))
    rw [h2]
    generalize (rest t ++ x).length / 64 = q
    rw [h1, List.drop_drop, Nat.mul_add]
theorem blocks_step (f : List W → List UInt8 → List W) (q : Nat) (h : List W) (t : List UInt8) : blocks f (q + 1) h t = f (blocks f q h t) ((t.drop (64 * q)).take 64) := by
  rw [blocks_add f q 1]; rfl
theorem blocks_length {f : List W → List UInt8 → List W} {k : Nat} (hf : ∀ h p, h.length = k → (f h p).length = k) : ∀ (n : Nat) (h : List W) (t : List UInt8), h.length = k → (blocks f n h t).length = k
  | 0, h, t, hl => hl
  | n + 1, h, t, hl => blocks_length hf n _ _ (hf _ _ hl)
theorem adds_length : ∀ {h v : List W}, h.length = v.length → (adds h v).length = h.length
  | [], [], _ => rfl
  | a :: h, b :: v, hl => by simp only [adds, List.length_cons]; rw [adds_length (by simpa using hl)]
theorem rd1_length (i : Nat) (x : W) (v : List W) : (rd1 i x v).length = v.length := by
  unfold rd1; split <;> rfl
theorem rds1_length : ∀ (i : Nat) (l v : List W), (rds1 i l v).length = v.length
  | _, [], v => rfl
  | i, x :: r, v => by rw [rds1, rds1_length (i + 1) r, rd1_length]
theorem rd2_length (k x : W) (v : List W) : (rd2 k x v).length = v.length := by
  unfold rd2; split <;> rfl
theorem rds2_length : ∀ (k l v : List W), (rds2 k l v).length = v.length
  | [], _, v => by simp [rds2]
  | _ :: _, [], v => by simp [rds2]
  | k :: ks, x :: r, v => by rw [rds2, rds2_length ks r, rd2_length]
theorem block1_length (h : List W) (p : List UInt8) : (block1 h p).length = h.length := by
  unfold block1; rw [adds_length (by rw [rds1_length])]
theorem block2_length (K h : List W) (p : List UInt8) : (block2 K h p).length = h.length := by
  unfold block2; rw [adds_length (by rw [rds2_length])]
/-- The digest of a text by f. -/
def digest (f : List W → List UInt8 → List W) (st : List W) (t : List UInt8) : List UInt8 := out (stt f st (pad t))
theorem pad_length (t : List UInt8) : (pad t).length % 64 = 0 := by
  unfold pad; simp; omega
theorem dig1_len (t : List UInt8) : (digest block1 start1 t).length = 20 := by
  have hl : (stt block1 start1 (pad t)).length = 5 := blocks_length (f := block1) (fun h p hl => by rw [block1_length]; exact hl) _ _ _ rfl
  unfold digest
  match stt block1 start1 (pad t), hl with
  | [a, b, c, d, e], _ => rfl
end ShaM

/- A sum that is added up, in memory. No condition. -/
set_option linter.unusedVariables false
namespace Go.Proofs.YtfoeooddnmppnaaGreatDoor
open Go Vc ShaM Go.Proofs

/-- A sum that is added up: t has been written. -/
structure HashAt (w : World) (b lo : Nat) (sl : Sl) (T : TypeId) (f : List ShaM.W → List UInt8 → List ShaM.W) (st : List ShaM.W) (t : List UInt8) : Prop where
  lob : lo ≤ b
  blk : ∃ r : ByteArray, r.data.toList = rest t ∧ w.heap[b]? = some (.cells #[.slice sl.a sl.len sl.cap, .string r, .int .u64 (t.length : Int)] T)
  len : t.length ≤ 72057594037927936
  ne : ∀ y, sl.a = some y → y.block ≠ b
  own : (sl = ⟨none, 0, 0⟩ ∧ t = []) ∨ (Vc.Own w lo T_uint32 sl (uv (stt f st t)) ∧ sl.a ≠ none)
theorem HashAt.keep {w w2 : World} {b lo : Nat} {sl : Sl} {T : TypeId} {f : List ShaM.W → List UInt8 → List ShaM.W} {st : List ShaM.W} {t : List UInt8} (h : HashAt w b lo sl T f st t) {X : Nat → Prop} (hf : Fr X w w2) (hb : ¬ X b) (hs : ∀ y, sl.a = some y → ¬ X y.block) : HashAt w2 b lo sl T f st t := by
  obtain ⟨r, h1, h2⟩ := h.blk
  refine ⟨h.lob, ⟨r, h1, hf.keep h2 hb⟩, h.len, h.ne, ?_⟩
  rcases h.own with h3 | ⟨h3, h4⟩
  · exact .inl h3
  · exact .inr ⟨h3.keep hf hs, h4⟩
theorem HashAt.zero {w w' : World} {T : TypeId} (f : List ShaM.W → List UInt8 → List ShaM.W) (st : List ShaM.W) (h : w' = w.alloc (.cells #[.slice none 0 0, .string ⟨#[]⟩, .int .u64 0] T)) : HashAt w' w.heap.size w.heap.size ⟨none, 0, 0⟩ T f st [] :=
  ⟨Nat.le_refl _, ⟨⟨#[]⟩, rfl, by rw [h]; exact alloc_new _ _⟩, Nat.zero_le _, (fun y hy => by cases hy), .inl ⟨rfl, rfl⟩⟩
theorem since_back {w w1 : World} {sl sl' : Sl} (f : Fr (fun _ => False) w w1) (h : Since w1 sl sl') : Since w sl sl' := fun y hy => by
  rcases h y hy with h | h
  · exact .inl h
  · exact .inr (by have := f.size; omega)
end Go.Proofs.YtfoeooddnmppnaaGreatDoor

/- What write and sum of the package sha do, by block256. Conditions: the texts are short enough for a slice to hold (2 to the 56th). -/
set_option linter.unusedVariables false
namespace Go.Proofs.YtfoeooddnmppnaaGreatDoor
open Go Vc ShaM Go.Proofs


theorem hw256_spec {w : World} {b lo : Nat} {sl : Sl} {T : TypeId} {t : List UInt8} (hh : HashAt w b lo sl T (block2 K256) start2 t) {a : Option Addr} (c : Nat) (hst : Reads w a (uv start2)) (x : ByteArray) (hx : t.length + x.size ≤ 72057594037927936) :
    Calls Tryz.prog F_sha_hash_write #[.pointer (some ⟨b, 0, none⟩), .string x, .slice a 8 c, .func (.func F_sha_block256) #[] #[]] w fun e w' =>
      e = .returned (.tuple #[]) ∧ ∃ sl', HashAt w' b lo sl' T (block2 K256) start2 (t ++ x.data.toList) ∧ sl'.a ≠ none ∧ Fr (fun k => k = b ∨ Vc.At sl k) w w' ∧ Since w sl sl' := by
  refine vc_sha_hash_write_256_ok (R := fun v w' => v = .tuple #[] ∧ ∃ sl', HashAt w' b lo sl' T (block2 K256) start2 (t ++ x.data.toList) ∧ sl'.a ≠ none ∧ Fr (fun k => k = b ∨ Vc.At sl k) w w' ∧ Since w sl sl') ?_ (fun v w' h => ⟨by rw [h.1], h.2⟩)
  obtain ⟨r, hr, hblk⟩ := hh.blk
  have hbw := lt_blk hblk
  have hlo := hh.lob
  have hxl : x.data.toList.length = x.size := by simp
  have hstl : (stt (block2 K256) start2 t).length = 8 := blocks_length (f := (block2 K256)) (fun h p hl => by rw [block2_length]; exact hl) _ _ _ rfl
  have hrs : r.size = t.length % 64 := by rw [← rest_length, ← hr]; simp
  refine ⟨fun w6 => ∃ sl1, w6.heap[b]? = some (.cells #[.slice sl1.a sl1.len sl1.cap, .string r, .int .u64 (t.length : Int)] T) ∧ Vc.Own w6 lo T_uint32 sl1 (uv (stt (block2 K256) start2 t)) ∧ (∀ y, sl1.a = some y → y.block ≠ b) ∧ Fr (fun k => k = b ∨ Vc.At sl k) w w6 ∧ Since w sl sl1, ⟨sl, by rw [cell_blk hblk]; rfl, fun hnone => ?_, fun hsome => ?_⟩, ?_⟩
  · rcases hh.own with ⟨rfl, rfl⟩ | ⟨_, hne⟩
    · obtain ⟨w3, l4, hr3, o3, f3, s3⟩ := append_all' elU32 (Vc.Own.nil w lo T_uint32) c hst (one_uv _) (by simp only [List.length_nil, uv_len]; decide) (by simp only [List.length_nil, uv_len]; decide) (by omega) (m := 8) rfl
      rw [List.nil_append] at o3
      have f3' : Fr (fun _ => False) w w3 := f3.mono fun k hk ⟨y, hy, _⟩ => by cases hy
      have hb3 := f3'.keep hblk (by simp)
      refine ⟨w3, l4, hr3, wr_blk hb3 (by simp), ?_⟩
      intro w5 hw5
      have hb5 := set_blk hb3 0 (.slice l4.a l4.len l4.cap)
      rw [← hw5] at hb5
      have f5 : Fr (· = b) w3 w5 := hw5 ▸ Fr.set (· = b) _ (a := ⟨b, 0, none⟩) _ rfl
      have hne4 : ∀ y, l4.a = some y → y.block ≠ b := fun y hy => by
        rcases s3 y hy with ⟨z, hz, _⟩ | hn
        · cases hz
        · omega
      exact ⟨l4, hb5, o3.keep f5 (fun y hy => hne4 y hy), hne4, (f3'.mono (by simp)).trans f5 (fun k hk h => .inl h), s3⟩
    · exfalso
      cases hsa : sl.a with
      | none => exact hne hsa
      | some y => rw [hsa] at hnone; cases hnone
  · rcases hh.own with ⟨rfl, rfl⟩ | ⟨ho, hne⟩
    · cases hsome
    · exact ⟨sl, hblk, ho, hh.ne, .refl _ _, .refl _ _⟩
  rintro w6 ⟨sl1, hb6, o6, hne1, f6, s6⟩
  refine ⟨_, by rw [cell_blk hb6]; rfl, wr_blk hb6 (by simp), ?_⟩
  intro w8 hw8
  have en : IntKind.u64.wrap ((t.length : Int) + IntKind.u64.wrap (x.size : Int)) = (((t ++ x.data.toList).length : Nat) : Int) := by
    rw [List.length_append, hxl, wrap_u64 (x := (x.size : Int)) (by omega) (by omega), wrap_u64 (by omega) (by omega)]; omega
  rw [en] at hw8
  have hb8 := set_blk hb6 2 (.int .u64 (((t ++ x.data.toList).length : Nat) : Int))
  rw [← hw8] at hb8
  have f8 : Fr (· = b) w6 w8 := hw8 ▸ Fr.set (· = b) _ (a := ⟨b, 2, none⟩) _ rfl
  refine ⟨r, by rw [cell_blk hb8]; rfl, by omega, ?_⟩
  have hX : ∀ k, k < w.heap.size → Vc.At sl1 k → (k = b ∨ Vc.At sl k) := fun k hk ⟨y, hy, e⟩ => by
    rcases s6 y hy with ⟨z, hz, hzb⟩ | hn
    · exact .inr ⟨z, hz, by omega⟩
    · omega
  obtain ⟨TT, hTT⟩ : ∃ TT, rest t ++ x.data.toList = TT := ⟨_, rfl⟩
  have hTl : TT.length = t.length % 64 + x.size := by rw [← hTT, List.length_append, rest_length, hxl]
  obtain ⟨q1, q2⟩ := step_all (block2 K256) start2 t x.data.toList
  rw [hTT] at q1 q2
  refine ⟨fun s w' => ∃ q : Nat, 64 * q ≤ TT.length ∧ s.data.toList = TT.drop (64 * q) ∧ w'.heap[b]? = some (.cells #[.slice sl1.a sl1.len sl1.cap, .string r, .int .u64 (((t ++ x.data.toList).length : Nat) : Int)] T) ∧ Vc.Own w' lo T_uint32 sl1 (uv (blocks (block2 K256) q (stt (block2 K256) start2 t) TT)) ∧ Fr (Vc.At sl1) w8 w',
    fun s _ => s.size, ⟨0, by omega, by rw [← hTT, ← hr]; simp, hb8, o6.keep f8 (fun y hy => hne1 y hy), .refl _ _⟩, ?_⟩
  rintro s w13 ⟨q, hq, hs, hb13, o13, f13⟩
  have hsz : s.size = TT.length - 64 * q := by
    have : s.data.toList.length = s.size := by simp
    rw [← this, hs, List.length_drop]
  refine ⟨fun hge => ?_, fun hlt => ?_⟩
  · have hge := of_decide_eq_true hge
    intro w14 d14
    refine ⟨fun w => w = w14, rfl, sl1, fun w hw => by rw [hw, d14.cell, cell_blk hb13]; rfl, ⟨by decide, by omega⟩, ?_⟩
    have hbl := blocks_length (f := (block2 K256)) (fun h p hl => by rw [block2_length]; exact hl) q (stt (block2 K256) start2 t) TT hstl
    have hex : (s.extract 0 (Int.toNat 64)).data.toList = (TT.drop (64 * q)).take 64 := by
      rw [ext_toList, hs]; rfl
    refine (block256_spec (o13.drew d14) hbl (s.extract 0 (Int.toNat 64)) (by rw [ByteArray.size_extract]; show min 64 s.size - 0 = 64; omega)).mono ?_
    rintro e w19 ⟨rfl, o19, f19⟩
    rw [hex, ← blocks_step (block2 K256)] at o19
    have hb19 : w19.heap[b]? = _ := f19.keep ((Fr.drew (fun _ => False) d14).keep hb13 (by simp)) (fun ⟨y, hy, e⟩ => hne1 y hy e.symm)
    refine ⟨rfl, ⟨by decide, by omega⟩, ⟨q + 1, by omega, ?_, hb19, o19, (f13.trans' (.drew _ d14)).trans' f19⟩, ?_⟩
    · rw [ext_toList, hs, List.take_of_length_le (by rw [List.length_drop, List.length_drop]; show _ ≤ s.size - 64; omega), List.drop_drop]
      congr 1
    · dsimp only
      rw [ByteArray.size_extract]
      show min s.size s.size - 64 < s.size
      omega
  · have hlt := of_decide_eq_false hlt
    have hq2 : q = TT.length / 64 := by omega
    subst hq2
    rw [q1] at o13
    rw [q2] at hs
    refine ⟨wr_blk hb13 (by simp), ?_⟩
    intro w20 hw20
    have hb20 := set_blk hb13 1 (.string s)
    rw [← hw20] at hb20
    have f20 : Fr (· = b) w13 w20 := hw20 ▸ Fr.set (· = b) _ (a := ⟨b, 1, none⟩) _ rfl
    have o20 := o13.keep f20 (fun y hy => hne1 y hy)
    have hstl2 : (stt (block2 K256) start2 (t ++ x.data.toList)).length = 8 := blocks_length (f := (block2 K256)) (fun h p hl => by rw [block2_length]; exact hl) _ _ _ rfl
    refine ⟨rfl, sl1, ⟨hlo, ⟨s, hs, hb20⟩, by rw [List.length_append, hxl]; omega, hne1, .inr ⟨o20, fun hn => ?_⟩⟩, fun hn => ?_, ((f6.trans f8 (fun k hk h => .inl h)).trans f13 hX).trans f20 (fun k hk h => .inl h), s6⟩
    all_goals
      obtain ⟨y, hy, _⟩ := own_get o20 (i := 0) (by omega)
      rw [hn] at hy; cases hy
end Go.Proofs.YtfoeooddnmppnaaGreatDoor

/- What sum of the package sha does, by block256. Conditions: the texts are short enough for a slice to hold (2 to the 56th). -/
set_option linter.unusedVariables false
namespace Go.Proofs.YtfoeooddnmppnaaGreatDoor
open Go Vc ShaM Go.Proofs

/-- What is put behind the text, block256. -/
def tail256 (n : Nat) : List UInt8 := 0x80 :: List.replicate ((119 - n % 64) % 64) 0 ++ (List.range 8).map fun i => UInt8.ofNat (n * 8 / 2 ^ (56 - 8 * i))
theorem pad256_eq (t : List UInt8) : pad t = t ++ tail256 t.length := by simp [pad, tail256]
theorem outw256_eq (x : ShaM.W) : (Array.mk [Value.int .u8 (IntKind.u8.wrap (Int.fdiv (x.toNat : Int) (2 ^ min (Int.toNat 24) 32))), .int .u8 (IntKind.u8.wrap (Int.fdiv (x.toNat : Int) (2 ^ min (Int.toNat 16) 32))), .int .u8 (IntKind.u8.wrap (Int.fdiv (x.toNat : Int) (2 ^ min (Int.toNat 8) 32))), .int .u8 (IntKind.u8.wrap (x.toNat : Int))] : Array Value) = (byteV (outw x)).toArray := by
  have h : ∀ (n k : Nat), IntKind.u8.wrap (Int.fdiv (n : Int) ((k + 1 : Nat) : Int)) = (((UInt8.ofNat (n / (k + 1))).toNat : Nat) : Int) := fun n k => by
    rw [Int.fdiv_eq_ediv_of_nonneg _ (Int.natCast_nonneg _), ← Int.natCast_ediv, wrap_u8_mod, UInt8.toNat_ofNat']
    omega
  have h0 : IntKind.u8.wrap (x.toNat : Int) = (((UInt8.ofNat x.toNat).toNat : Nat) : Int) := by rw [wrap_u8_mod, UInt8.toNat_ofNat']; omega
  have p24 : (2 : Int) ^ min (Int.toNat 24) 32 = ((16777215 + 1 : Nat) : Int) := rfl
  have p16 : (2 : Int) ^ min (Int.toNat 16) 32 = ((65535 + 1 : Nat) : Int) := rfl
  have p8 : (2 : Int) ^ min (Int.toNat 8) 32 = ((255 + 1 : Nat) : Int) := rfl
  rw [p24, p16, p8, h, h, h, h0]
  rfl
theorem hs256_spec {w : World} {b lo : Nat} {sl : Sl} {T : TypeId} {t : List UInt8} (hh : HashAt w b lo sl T (block2 K256) start2 t) {a : Option Addr} (c : Nat) (hst : Reads w a (uv start2)) (hx : t.length + 200 ≤ 72057594037927936) :
    Calls Tryz.prog F_sha_hash_sum #[.pointer (some ⟨b, 0, none⟩), .slice a 8 c, .func (.func F_sha_block256) #[] #[]] w fun e w' => e = .returned (.string ⟨(digest (block2 K256) start2 t).toArray⟩) ∧ Fr (fun _ => False) w w' := by
  refine vc_sha_hash_sum_256_ok (R := fun v w' => v = .string ⟨(digest (block2 K256) start2 t).toArray⟩ ∧ Fr (fun _ => False) w w') ?_ (fun v w' h => ⟨by rw [h.1], h.2⟩)
  obtain ⟨r, hr, hblk⟩ := hh.blk
  have hbw := lt_blk hblk
  have hrs : r.size = t.length % 64 := by rw [← rest_length, ← hr]; simp
  -- the copy's words
  have copy_ : ∀ w2, Fr (fun _ => False) w w2 → ∃ w3 l3, (Builtin.append_ #[T_S_uint32, T_S_uint32] T_S_uint32 #[.slice none 0 0, .slice sl.a sl.len sl.cap]).run Tryz.prog w2 = .ok (.slice l3.a l3.len l3.cap) w3 ∧ Fr (fun _ => False) w2 w3 ∧
      (∀ y, l3.a = some y → w2.heap.size ≤ y.block ∧ y.block < w3.heap.size) ∧ ((sl = ⟨none, 0, 0⟩ ∧ t = [] ∧ l3 = ⟨none, 0, 0⟩) ∨ (Vc.Own w3 w.heap.size T_uint32 l3 (uv (stt (block2 K256) start2 t)) ∧ sl.a ≠ none)) := fun w2 f2 => by
    have hsz := f2.size
    rcases hh.own with ⟨h1, h2⟩ | ⟨ho, hne⟩
    · obtain ⟨w3, l3, hr3, o3, f3, s3⟩ := append_all' (w := w2) elU32 (Vc.Own.nil w2 w.heap.size T_uint32) sl.cap (Reads.nil w2 sl.a) (by simp) (by decide) (by decide) hsz (m := sl.len) (by rw [h1]; rfl)
      have f3' : Fr (fun _ => False) w2 w3 := f3.mono fun k hk ⟨y, hy, _⟩ => by cases hy
      have hl3 : l3.a = none := by
        cases h : l3.a with
        | none => rfl
        | some y =>
          exfalso
          subst h1
          have hr4 := append_all' (w := w2) elU32 (Vc.Own.nil w2 w.heap.size T_uint32) 0 (Reads.nil w2 none) (by simp) (by decide) (by decide) hsz (m := 0) rfl
          have : (Builtin.append_ #[T_S_uint32, T_S_uint32] T_S_uint32 #[.slice none 0 0, .slice none 0 0]).run Tryz.prog w2 = .ok (.slice none 0 0) w2 := by
            obtain ⟨i, hi, hi2⟩ := Option.map_eq_some_iff.1 elU32.info
            simp [Builtin.append_, run_underlying elU32.sl, Go.sizeOf, typeInfo, hi, Builtin.lenOf, Builtin.firstCells]
          rw [this] at hr3
          simp only [Result.ok.injEq, Value.slice.injEq] at hr3
          rw [← hr3.1.1] at h; cases h
      have hl3' : l3 = ⟨none, 0, 0⟩ := by
        rcases o3.2 with ⟨_, q1, q2⟩ | ⟨g, cur, hg, _⟩
        · cases l3; simp_all
        · rw [hl3] at hg; cases hg
      exact ⟨w3, l3, hr3, f3', (fun y hy => by rw [hl3] at hy; cases hy), .inl ⟨h1, h2, hl3'⟩⟩
    · obtain ⟨w3, l3, hr3, o3, f3, s3⟩ := append_all' (w := w2) elU32 (Vc.Own.nil w2 w.heap.size T_uint32) sl.cap ((ho.keep f2 (by simp)).reads) (one_uv _) (by simp only [List.length_nil, uv_len, stt, blocks_length (f := (block2 K256)) (fun h p hl => by rw [block2_length]; exact hl) _ _ _ (rfl : start2.length = 8)]; decide)
        (by simp only [List.length_nil, uv_len, stt, blocks_length (f := (block2 K256)) (fun h p hl => by rw [block2_length]; exact hl) _ _ _ (rfl : start2.length = 8)]; decide) hsz (m := sl.len) ho.len.symm
      rw [List.nil_append] at o3
      have f3' : Fr (fun _ => False) w2 w3 := f3.mono fun k hk ⟨y, hy, _⟩ => by cases hy
      refine ⟨w3, l3, hr3, f3', fun y hy => ?_, .inr ⟨o3, hne⟩⟩
      rcases s3 y hy with ⟨z, hz, _⟩ | hn
      · cases hz
      · exact ⟨hn, (o3.blk hy).2⟩
  refine ⟨fun q w' => ∃ eb slE, q = ⟨eb, 0, none⟩ ∧ w.heap.size ≤ eb ∧ HashAt w' eb w.heap.size slE T_sha_hash (block2 K256) start2 t ∧ Fr (fun _ => False) w w', ?_, ?_⟩
  · intro w2 d2
    have f2 : Fr (fun _ => False) w w2 := .drew _ d2
    refine ⟨Fr (fun _ => False) w, f2, sl, fun w5 h5 => by rw [cell_blk (h5.keep hblk (by simp))]; rfl, r, fun w5 h5 => by rw [cell_blk (h5.keep hblk (by simp))]; rfl, _, fun w5 h5 => by rw [cell_blk (h5.keep hblk (by simp))]; rfl, ?_, ?_⟩
    · obtain ⟨w10, l11, hr10, f10, hb10, hc⟩ := copy_ w2 f2
      refine ⟨w10, l11, hr10, f2.trans' f10, ?_⟩
      intro w12 hw12
      have f12 : Fr (fun _ => False) w10 w12 := hw12 ▸ Fr.alloc _ _ _
      have hz12 := alloc_new w10 (.cells #[.slice none 0 0, .string ⟨#[]⟩, .int .u64 0] T_sha_hash)
      rw [← hw12] at hz12
      have h12 := (f2.trans' f10).trans' f12
      have hs := run_storeVar_row (P := Tryz.prog) w12 w10.heap.size T_sha_hash T_sha_hash _ #[.slice l11.a l11.len l11.cap, .string r, .int .u64 (t.length : Int)] hz12 (by kernel_rfl) rfl (by simp [Value.oneCell'])
      refine ⟨h12, _, hs, w10.heap.size, l11, rfl, (f2.trans' f10).size, ?_, ?_⟩
      · have hrow := setRow_heap w12 w10.heap.size _ #[.slice l11.a l11.len l11.cap, .string r, .int .u64 (t.length : Int)] T_sha_hash (0, 0) hz12
        have frow : Fr (· = w10.heap.size) w12 (w12.setRow w10.heap.size #[.slice l11.a l11.len l11.cap, .string r, .int .u64 (t.length : Int)]) := setRow_fr _ _ _ _ rfl
        refine ⟨(f2.trans' f10).size, ⟨r, hr, hrow⟩, hh.len, fun y hy => by have := (hb10 y hy).2; omega, ?_⟩
        rcases hc with ⟨_, h2, h3⟩ | ⟨h1, h2⟩
        · exact .inl ⟨h3, h2⟩
        · refine .inr ⟨(h1.keep f12 (by simp)).keep frow (fun y hy => by have := (hb10 y hy).2; omega), fun hn => ?_⟩
          obtain ⟨y, hy, _⟩ := own_get h1 (i := 0) (by rw [stt, blocks_length (f := (block2 K256)) (fun h p hl => by rw [block2_length]; exact hl) _ _ _ (rfl : start2.length = 8)]; decide)
          rw [hn] at hy; cases hy
      · exact h12.trans (setRow_fr (· = w10.heap.size) _ _ _ rfl) (fun q hq h => by have := (f2.trans' f10).size; omega)
    · intro w14 hw14
      have f14 : Fr (fun _ => False) w2 w14 := hw14 ▸ Fr.alloc _ _ _
      have hz14 := alloc_new w2 (.cells #[.slice none 0 0, .string ⟨#[]⟩, .int .u64 0] T_sha_hash)
      rw [← hw14] at hz14
      have h14 := f2.trans' f14
      obtain ⟨w15, l16, hr15, f15, hb15, hc⟩ := copy_ w14 h14
      have hz15 := f15.keep hz14 (by simp)
      have hs := run_storeVar_row (P := Tryz.prog) w15 w2.heap.size T_sha_hash T_sha_hash _ #[.slice l16.a l16.len l16.cap, .string r, .int .u64 (t.length : Int)] hz15 (by kernel_rfl) rfl (by simp [Value.oneCell'])
      have h15 := h14.trans' f15
      have hlt14 := lt_blk hz14
      refine ⟨h14, w15, l16, hr15, h15, _, hs, w2.heap.size, l16, rfl, f2.size, ?_, ?_⟩
      · have hrow := setRow_heap w15 w2.heap.size _ #[.slice l16.a l16.len l16.cap, .string r, .int .u64 (t.length : Int)] T_sha_hash (0, 0) hz15
        have frow : Fr (· = w2.heap.size) w15 (w15.setRow w2.heap.size #[.slice l16.a l16.len l16.cap, .string r, .int .u64 (t.length : Int)]) := setRow_fr _ _ _ _ rfl
        refine ⟨f2.size, ⟨r, hr, hrow⟩, hh.len, fun y hy => by have := (hb15 y hy).1; omega, ?_⟩
        rcases hc with ⟨_, h2, h3⟩ | ⟨h1, h2⟩
        · exact .inl ⟨h3, h2⟩
        · refine .inr ⟨h1.keep frow (fun y hy => by have := (hb15 y hy).1; omega), fun hn => ?_⟩
          obtain ⟨y, hy, _⟩ := own_get h1 (i := 0) (by rw [stt, blocks_length (f := (block2 K256)) (fun h p hl => by rw [block2_length]; exact hl) _ _ _ (rfl : start2.length = 8)]; decide)
          rw [hn] at hy; cases hy
      · exact h15.trans (setRow_fr (· = w2.heap.size) _ _ _ rfl) (fun q hq h => by have := f2.size; omega)
  rintro q w19 ⟨eb, slE, rfl, heb, hE, f19⟩
  have hb19 := f19.keep hblk (by simp)
  refine ⟨fun w' => ∃ slE, HashAt w' eb w.heap.size slE T_sha_hash (block2 K256) start2 t ∧ Fr (fun _ => False) w w', ⟨sl, by rw [cell_blk hb19]; rfl, fun hnone => ?_, fun _ => ⟨slE, hE, f19⟩⟩, ?_⟩
  · rcases hh.own with ⟨h1, h2⟩ | ⟨_, hne⟩
    · obtain ⟨r2, hr2, hblk2⟩ := hE.blk
      refine ⟨wr_blk hblk2 (by simp), ?_⟩
      intro w22 hw22
      have hb22 := set_blk hblk2 0 (.slice none 0 0)
      rw [← hw22] at hb22
      have f22 : Fr (· = eb) w19 w22 := hw22 ▸ Fr.set (· = eb) _ (a := ⟨eb, 0, none⟩) _ rfl
      exact ⟨⟨none, 0, 0⟩, ⟨heb, ⟨r2, hr2, hb22⟩, hh.len, (fun y hy => by cases hy), .inl ⟨rfl, h2⟩⟩, f19.trans f22 (fun q hq h => by omega)⟩
    · exfalso
      cases hsa : sl.a with
      | none => exact hne hsa
      | some y => rw [hsa] at hnone; cases hnone
  clear hE f19 hb19 slE
  rintro w23 ⟨slE, hE, f23⟩
  refine ⟨fun s w' => w' = w23 ∧ ∃ j : Nat, j ≤ (119 - t.length % 64) % 64 ∧ s.data.toList = 0x80 :: List.replicate j 0, fun s _ => 200 - s.size, ⟨rfl, 0, Nat.zero_le _, rfl⟩, ?_⟩
  rintro s26 w27 ⟨rfl, j, hj, hs26⟩
  have hb27 := f23.keep hblk (by simp)
  have hs26l : s26.size = j + 1 := by
    have : s26.data.toList.length = s26.size := by simp
    rw [← this, hs26]; simp
  have htl := hh.len
  have e0 : Int.tmod (IntKind.i64.wrap ((r.size : Int) + (s26.size : Int))) 64 = ((((t.length % 64) + j + 1) % 64 : Nat) : Int) := by
    rw [wrap_i64 (by omega) (by omega), Int.tmod_eq_emod_of_nonneg (by omega)]; omega
  have e00 : ((ByteArray.mk (Array.mk [0])).size : Nat) = 1 := rfl
  refine ⟨r, by rw [cell_blk hb27]; rfl, by decide, ?_⟩
  rw [e0]
  refine ⟨fun hne => ?_, fun heq => ?_⟩
  · have hne : ¬ ((t.length % 64) + j + 1) % 64 = 56 := fun h => by rw [h] at hne; exact absurd hne (by decide)
    have hsz : (s26 ++ ByteArray.mk (Array.mk [0])).size = j + 2 := by rw [ByteArray.size_append, hs26l]; rfl
    refine ⟨by omega, ⟨rfl, j + 1, by omega, ?_⟩, ?_⟩
    · rw [ByteArray.data_append, Array.toList_append, hs26, List.replicate_succ']; rfl
    · dsimp only; omega
  have heq : ((t.length % 64) + j + 1) % 64 = 56 := by
    by_cases h : ((t.length % 64) + j + 1) % 64 = 56
    · exact h
    · exfalso
      have : ((((t.length % 64 + j + 1) % 64 : Nat) : Int) != 56) = true := by simp; omega
      rw [this] at heq; cases heq
  have hjz : j = (119 - t.length % 64) % 64 := by omega
  obtain ⟨bs, hbs⟩ : ∃ bs : List UInt8, (List.range 8).map (fun i => UInt8.ofNat (t.length * 8 / 2 ^ (56 - 8 * i))) = bs := ⟨_, rfl⟩
  have hbl : bs.length = 8 := by rw [← hbs]; simp
  refine ⟨fun l i w' => ∃ m : Nat, m ≤ 8 ∧ i = 56 - 8 * (m : Int) ∧ Vc.Own w' w27.heap.size T_uint8 l (byteV (bs.take m)) ∧ Fr (fun _ => False) w27 w', fun _ i _ => (i + 8).toNat, ⟨0, by decide, rfl, Vc.Own.nil _ _ _, .refl _ _⟩, ?_⟩
  rintro l31 i w33 ⟨m, hm, rfl, o33, f33⟩
  refine ⟨fun hge => ?_, fun hlt => ?_⟩
  · have hge := of_decide_eq_true hge
    have hb33 := f33.keep hb27 (by simp)
    refine ⟨_, by rw [cell_blk hb33]; rfl, hge, ?_⟩
    have hm8 : m < 8 := by omega
    have hg : bs[m]'(by omega) = UInt8.ofNat (t.length * 8 / 2 ^ (56 - 8 * m)) := by
      have h1 : bs[m]? = some (UInt8.ofNat (t.length * 8 / 2 ^ (56 - 8 * m))) := by
        rw [← hbs, List.getElem?_map, List.getElem?_range hm8]; rfl
      exact (List.getElem?_eq_some_iff.1 h1).2
    have htk : bs.take (m + 1) = bs.take m ++ [UInt8.ofNat (t.length * 8 / 2 ^ (56 - 8 * m))] := by rw [List.take_succ_eq_append_getElem (by omega), hg]
    have ev : IntKind.u8.wrap (Int.fdiv (IntKind.u64.wrap ((t.length : Int) * 8)) (2 ^ min (Int.toNat (56 - 8 * (m : Int))) 64)) = (((UInt8.ofNat (t.length * 8 / 2 ^ (56 - 8 * m))).toNat : Nat) : Int) := by
      have h1 : min (Int.toNat (56 - 8 * (m : Int))) 64 = 56 - 8 * m := by omega
      have hp : (2 : Int) ^ (56 - 8 * m) = ((2 ^ (56 - 8 * m) : Nat) : Int) := by push_cast; rfl
      have h2 : IntKind.u64.wrap ((t.length : Int) * 8) = ((t.length * 8 : Nat) : Int) := by rw [wrap_u64 (by omega) (by omega)]; omega
      rw [h1, hp, h2, Int.fdiv_eq_ediv_of_nonneg _ (Int.natCast_nonneg _), ← Int.natCast_ediv, wrap_u8_mod, UInt8.toNat_ofNat']
      omega
    rw [ev]
    intro w35 hw35
    have hl : (byteV (bs.take m)).length = m := by rw [List.length_map, List.length_take, hbl]; omega
    obtain ⟨w36, l37, hr36, o36, f36⟩ := append_one elByte o33 (v := .int .u8 (((UInt8.ofNat (t.length * 8 / 2 ^ (56 - 8 * m))).toNat : Nat) : Int)) rfl (by rw [hl]; unfold maxLen; omega) (by rw [hl]; omega) f33.size hw35
    have e8 : IntKind.i64.wrap (56 - 8 * (m : Int) - 8) = 56 - 8 * ((m + 1 : Nat) : Int) := by rw [wrap_i64 (by omega) (by omega)]; omega
    rw [e8]
    refine ⟨w36, l37, hr36, ⟨m + 1, by omega, rfl, ?_, f33.trans f36 (fun q hq ⟨y, hy, e⟩ => by have := (o33.blk hy).1; omega)⟩, by dsimp only; omega⟩
    rw [htk, byteV, List.map_append]; exact o36
  have hlt := of_decide_eq_false hlt
  have : m = 8 := by omega
  subst this
  rw [List.take_of_length_le (by omega)] at o33
  have hlb : bs.length = l31.len := by rw [o33.len, List.length_map]
  refine ⟨w33, _, bytes_str elByte.sl (by kernel_rfl) (by kernel_rfl) _ o33.reads hlb, ?_⟩
  have hbsz : (ByteArray.mk bs.toArray).size = 8 := by show bs.toArray.size = 8; rw [List.size_toArray, hbl]
  refine ⟨by omega, ?_⟩
  have hE33 := hE.keep f33 (by simp) (by simp)
  have hX : (s26 ++ ByteArray.mk bs.toArray).data.toList = tail256 t.length := by
    rw [ByteArray.data_append, Array.toList_append, hs26, hjz, tail256, hbs]
  have hXs : (s26 ++ ByteArray.mk bs.toArray).size ≤ 80 := by rw [ByteArray.size_append]; omega
  refine (hw256_spec hE33 c ((hst.keep f23 (by simp)).keep f33 (by simp)) (s26 ++ ByteArray.mk bs.toArray) (by omega)).mono ?_
  rintro e w41 ⟨rfl, sl', hE41, hne41, f41, s41⟩
  rw [hX, ← pad256_eq] at hE41
  have hebl : w.heap.size ≤ eb := heb
  have fE : Fr (fun _ => False) w w41 := (f23.trans' f33).trans f41 (fun q hq h => by
    rcases h with h | ⟨y, hy, h⟩
    · omega
    · rcases hE33.own with ⟨h1, _⟩ | ⟨h1, _⟩
      · rw [h1] at hy; cases hy
      · have := (h1.blk hy).1; omega)
  obtain ⟨r41, hr41, hblk41⟩ := hE41.blk
  have o41 : Vc.Own w41 w.heap.size T_uint32 sl' (uv (stt (block2 K256) start2 (pad t))) := by
    rcases hE41.own with ⟨h1, h2⟩ | ⟨h1, _⟩
    · rw [h1] at hne41; exact absurd rfl hne41
    · exact h1
  have hWl : (stt (block2 K256) start2 (pad t)).length = 8 := blocks_length (f := (block2 K256)) (fun h p hl => by rw [block2_length]; exact hl) _ _ _ rfl
  refine ⟨rfl, sl', by rw [cell_blk hblk41]; rfl, ?_⟩
  have hsl' : sl'.len = 8 := by rw [o41.len, uv_len, hWl]
  have hdg : digest (block2 K256) start2 t = out (stt (block2 K256) start2 (pad t)) := rfl
  rw [hdg]
  generalize stt (block2 K256) start2 (pad t) = WS at o41 hWl
  refine ⟨fun l i w' => ∃ m : Nat, m ≤ 8 ∧ i = (m : Int) ∧ Vc.Own w' w41.heap.size T_uint8 l (byteV (out (WS.take m))) ∧ Fr (fun _ => False) w41 w', fun _ i _ => ((8 : Int) - i).toNat, ⟨0, by decide, rfl, Vc.Own.nil _ _ _, .refl _ _⟩, ?_⟩
  rintro l45 i w47 ⟨m, hm, rfl, o47, f47⟩
  have houtl : ∀ l : List ShaM.W, (out l).length = 4 * l.length := fun l => by
    induction l with
    | nil => rfl
    | cons x l ih => 
      show (outw x ++ out l).length = _
      rw [List.length_append, ih, List.length_cons]; simp only [outw, List.length_cons, List.length_nil]; omega
  refine ⟨fun hlt => ?_, fun hge => ?_⟩
  · have hlt := of_decide_eq_true hlt
    have hml : m < WS.length := by omega
    obtain ⟨y, hy, hc⟩ := own_get (o41.keep f47 (by simp)) (i := m) hml
    have e1 : IntKind.i64.wrap ((m : Int) + 1) = ((m + 1 : Nat) : Int) := by rw [wrap_i64 (by omega) (by omega)]; omega
    refine ⟨⟨by omega, by omega⟩, y, hy, _, by rw [Int.toNat_natCast, Nat.mul_one]; exact hc, by decide, by decide, by decide, ?_⟩
    rw [outw256_eq, e1]
    have hg : WS.getD m 0 = WS[m] := by rw [List.getD_eq_getElem?_getD, List.getElem?_eq_getElem hml]; rfl
    rw [hg]
    have htk : out (WS.take (m + 1)) = out (WS.take m) ++ outw WS[m] := by
      rw [List.take_succ_eq_append_getElem hml, out, List.flatMap_append]; simp [out]
    generalize WS[m] = x at htk
    intro w50 hw50
    have f50 : Fr (fun _ => False) w47 w50 := hw50 ▸ Fr.alloc _ _ _
    have hz50 := alloc_new w47 (.cells (byteV (outw x)).toArray T_uint8)
    rw [← hw50] at hz50
    have hrd : Reads w50 (some ⟨w47.heap.size, 0, none⟩) (byteV (outw x)) := fun i v hv => by
      refine ⟨_, rfl, ?_⟩
      rw [add_lit, cell_blk hz50, Nat.zero_add, ← hv]; simp
    have hl : (byteV (out (WS.take m))).length = 4 * m := by rw [List.length_map, houtl, List.length_take]; omega
    obtain ⟨w51, l52, hr51, o51, f51⟩ := append_all elByte (o47.keep f50 (by simp)) 4 hrd (byteV_one _) (by rw [hl]; simp [outw, maxLen]; omega) (by rw [hl]; simp [outw]; omega) (f47.trans' f50).size (m := 4) (by simp [outw])
    refine ⟨w51, l52, hr51, ⟨m + 1, by omega, rfl, ?_, (f47.trans' f50).trans f51 (fun q hq ⟨y, hy, e⟩ => by have := (o47.blk hy).1; omega)⟩, by dsimp only; omega⟩
    rw [htk, byteV, List.map_append]; exact o51
  · have hge := of_decide_eq_false hge
    have : m = 8 := by omega
    subst this
    rw [List.take_of_length_le (by omega)] at o47
    exact ⟨w47, _, bytes_str elByte.sl (by kernel_rfl) (by kernel_rfl) _ o47.reads (by rw [o47.len, List.length_map]), rfl, fE.trans' f47⟩
end Go.Proofs.YtfoeooddnmppnaaGreatDoor

/- Hash256 and Sum256 of the package sha. Conditions: the texts are short enough for a slice to hold (2 to the 56th). -/
set_option linter.unusedVariables false
namespace Go.Proofs.YtfoeooddnmppnaaGreatDoor
open Go Vc ShaM Go.Proofs

theorem start256_spec (w : World) : Calls Tryz.prog F_sha_start256 #[] w fun e w' => e = .returned (.slice (some ⟨w.heap.size, 0, none⟩) 8 8) ∧ Vc.Own w' w.heap.size T_uint32 ⟨some ⟨w.heap.size, 0, none⟩, 8, 8⟩ (uv start2) ∧ Fr (fun _ => False) w w' := by
  refine vc_sha_start256_ok (R := fun v w' => v = .slice (some ⟨w.heap.size, 0, none⟩) 8 8 ∧ Vc.Own w' w.heap.size T_uint32 ⟨some ⟨w.heap.size, 0, none⟩, 8, 8⟩ (uv start2) ∧ Fr (fun _ => False) w w') ?_ (fun v w' h => ⟨by rw [h.1], h.2⟩)
  intro w1 hw1
  exact ⟨rfl, ⟨rfl, .inr ⟨w.heap.size, _, rfl, Nat.le_refl _, hw1 ▸ alloc_new _ _, Nat.le_refl _, by simp [maxLen], rfl, rfl⟩⟩, hw1 ▸ Fr.alloc _ _ _⟩

section
variable {w : World} {b lo : Nat} {sl : Sl} {T : TypeId} {t : List UInt8}
theorem h256write_spec (hh : HashAt w b lo sl T (block2 K256) start2 t) (x : ByteArray) (hx : t.length + x.size ≤ 72057594037927936) :
    Calls Tryz.prog F_sha_Hash256_Write #[.pointer (some ⟨b, 0, none⟩), .string x] w fun e w' =>
      e = .returned (.tuple #[]) ∧ ∃ sl', HashAt w' b lo sl' T (block2 K256) start2 (t ++ x.data.toList) ∧ Fr (fun k => k = b ∨ Vc.At sl k) w w' ∧ Since w sl sl' := by
  refine vc_sha_Hash256_Write_ok (R := fun v w' => v = .tuple #[] ∧ ∃ sl', HashAt w' b lo sl' T (block2 K256) start2 (t ++ x.data.toList) ∧ Fr (fun k => k = b ∨ Vc.At sl k) w w' ∧ Since w sl sl') ?_ (fun v w' h => ⟨by rw [h.1], h.2⟩)
  intro w1 d1
  refine ⟨fun _ => True, trivial, (start256_spec w1).mono ?_⟩
  rintro e w4 ⟨rfl, o4, f4⟩
  have f14 : Fr (fun _ => False) w w4 := (Fr.drew _ d1).trans' f4
  refine ⟨⟨_, 8, 8⟩, rfl, trivial, ?_⟩
  refine (hw256_spec (hh.keep f14 (by simp) (by simp)) 8 o4.reads x hx).mono ?_
  rintro e w7 ⟨rfl, sl', h7, _, f7, s7⟩
  exact ⟨rfl, rfl, sl', h7, (f14.mono (by simp)).trans f7 (fun k _ h => h), since_back f14 s7⟩
theorem h256sum_spec (hh : HashAt w b lo sl T (block2 K256) start2 t) (hx : t.length + 200 ≤ 72057594037927936) :
    Calls Tryz.prog F_sha_Hash256_Sum #[.pointer (some ⟨b, 0, none⟩)] w fun e w' => e = .returned (.string ⟨(digest (block2 K256) start2 t).toArray⟩) ∧ Fr (fun _ => False) w w' := by
  refine vc_sha_Hash256_Sum_ok (R := fun v w' => v = .string ⟨(digest (block2 K256) start2 t).toArray⟩ ∧ Fr (fun _ => False) w w') ?_ (fun v w' h => ⟨by rw [h.1], h.2⟩)
  intro w1 d1
  refine ⟨fun _ => True, trivial, (start256_spec w1).mono ?_⟩
  rintro e w4 ⟨rfl, o4, f4⟩
  have f14 : Fr (fun _ => False) w w4 := (Fr.drew _ d1).trans' f4
  refine ⟨⟨_, 8, 8⟩, rfl, trivial, ?_⟩
  refine (hs256_spec (hh.keep f14 (by simp) (by simp)) 8 o4.reads hx).mono ?_
  rintro e w7 ⟨rfl, f7⟩
  exact ⟨_, rfl, trivial, rfl, f14.trans' f7⟩
end
theorem sum256_spec (x : ByteArray) (hx : x.size + 200 ≤ 72057594037927936) (w : World) : Calls Tryz.prog F_sha_Sum256 #[.string x] w fun e w' => e = .returned (.string ⟨(digest (block2 K256) start2 x.data.toList).toArray⟩) ∧ Fr (fun _ => False) w w' := by
  refine vc_sha_Sum256_ok (R := fun v w' => v = .string ⟨(digest (block2 K256) start2 x.data.toList).toArray⟩ ∧ Fr (fun _ => False) w w') ?_ (fun v w' h => ⟨by rw [h.1], h.2⟩)
  intro w1 hw1
  have f1 : Fr (fun _ => False) w w1 := hw1 ▸ Fr.alloc _ _ _
  have h1 := HashAt.zero (T := T_sha_Hash256) (block2 K256) start2 hw1
  refine (h256write_spec h1 x (by simp; omega)).mono ?_
  rintro e w3 ⟨rfl, sl', h3, f3, _⟩
  refine ⟨rfl, (h256sum_spec h3 (by simp; omega)).mono ?_⟩
  rintro e w5 ⟨rfl, f5⟩
  refine ⟨_, rfl, rfl, (f1.trans f3 (fun k hk h => ?_)).trans' f5⟩
  rcases h with h | ⟨y, hy, _⟩
  · omega
  · cases hy

end Go.Proofs.YtfoeooddnmppnaaGreatDoor

/- A digit of a byte. No condition. -/
set_option linter.unusedVariables false
namespace Go.Proofs.YtfoeooddnmppnaaGreatDoor
open Go Vc HexM Go.Proofs

theorem hexdig_at (n : Nat) (h : n < 16) : byteAt ⟨#[48, 49, 50, 51, 52, 53, 54, 55, 56, 57, 97, 98, 99, 100, 101, 102]⟩ (n : Int) = (hx n : Nat) := by
  rw [byteAt_nat]
  have ha : ((List.range 16).all fun n => byt ⟨#[48, 49, 50, 51, 52, 53, 54, 55, 56, 57, 97, 98, 99, 100, 101, 102]⟩ n == hx n) = true := by decide +kernel
  have := List.all_eq_true.1 ha n (List.mem_range.2 h)
  rw [eq_of_beq this]
theorem and15 (n : Nat) (h : n < 256) : n &&& 15 = n % 16 := Nat.and_two_pow_sub_one_eq_mod n 4
end Go.Proofs.YtfoeooddnmppnaaGreatDoor

/- Formulas of 1 Go functions of this seat (written by a program of the author's, vcgen.py), and that each is enough for the call. No condition. -/
set_option linter.unusedVariables false
namespace Go.Proofs.YtfoeooddnmppnaaGreatDoor
open Go Vc Go.Proofs
set_option maxRecDepth 100000
/-- sums.Hex -/
def vc_sums_Hex (x0 : ByteArray) (w : World) (R : Value → World → Prop) : Prop :=
  ∃ I1 : Sl → Int → World → Prop, ∃ I2 : Sl → Int → World → Nat, (I1 (Sl.mk none 0 0) 0 w ∧
   ∀ l3 : Sl,
   ∀ n4 : Int,
   ∀ w5 : World,
   (I1 l3 n4 w5 →
     (((decide (n4 < (↑(ByteArray.size x0) : Int)) = true →
        ∀ w6 : World,
        (Drew w5 w6 →
          ∃ I7 : World → Prop, (I7 w6 ∧
           ((0 ≤ n4 ∧
             n4 < (↑(ByteArray.size x0) : Int)) ∧
            ((0 : Int) ≤ (4 : Int) ∧
             ((0 ≤ Int.fdiv (byteAt x0 n4) (2 ^ min (Int.toNat 4) 8) ∧
               Int.fdiv (byteAt x0 n4) (2 ^ min (Int.toNat 4) 8) < (↑(ByteArray.size (ByteArray.mk (Array.mk [48, 49, 50, 51, 52, 53, 54, 55, 56, 57, 97, 98, 99, 100, 101, 102]))) : Int)) ∧
              ((0 ≤ n4 ∧
                n4 < (↑(ByteArray.size x0) : Int)) ∧
               ((0 ≤ IntKind.wrap IntKind.u8 (↑(BitVec.toNat (BitVec.ofInt 8 (byteAt x0 n4) &&& BitVec.ofInt 8 15)) : Int) ∧
                 IntKind.wrap IntKind.u8 (↑(BitVec.toNat (BitVec.ofInt 8 (byteAt x0 n4) &&& BitVec.ofInt 8 15)) : Int) < (↑(ByteArray.size (ByteArray.mk (Array.mk [48, 49, 50, 51, 52, 53, 54, 55, 56, 57, 97, 98, 99, 100, 101, 102]))) : Int)) ∧
                ∀ w8 : World,
                (w8 = World.alloc w6 (Obj.cells (Array.mk [Value.int IntKind.u8 (byteAt (ByteArray.mk (Array.mk [48, 49, 50, 51, 52, 53, 54, 55, 56, 57, 97, 98, 99, 100, 101, 102])) (Int.fdiv (byteAt x0 n4) (2 ^ min (Int.toNat 4) 8))), Value.int IntKind.u8 (byteAt (ByteArray.mk (Array.mk [48, 49, 50, 51, 52, 53, 54, 55, 56, 57, 97, 98, 99, 100, 101, 102])) (IntKind.wrap IntKind.u8 (↑(BitVec.toNat (BitVec.ofInt 8 (byteAt x0 n4) &&& BitVec.ofInt 8 15)) : Int)))]) 5) →
                  (I7 w8 ∧
                   ∃ w9 : World, ∃ l10 : Sl, (Sem.run Tryz.prog (Builtin.append_ (Array.mk [86, 86]) 86 (Array.mk [Value.slice l3.1 l3.2 l3.3, Value.slice (some (Addr.mk (Array.size (World.heap w6)) 0 none)) 2 2])) w8 = Result.ok (Value.slice l10.1 l10.2 l10.3) w9 ∧
                    (I7 w9 ∧
                     (I1 (Sl.mk l10.1 l10.2 l10.3) (IntKind.wrap IntKind.i64 (n4 + 1)) w9 ∧
                      I2 (Sl.mk l10.1 l10.2 l10.3) (IntKind.wrap IntKind.i64 (n4 + 1)) w9 < I2 l3 n4 w5)))))))))))))) ∧
      (decide (n4 < (↑(ByteArray.size x0) : Int)) = false →
        ∃ w11 : World, ∃ s12 : ByteArray, (Sem.run Tryz.prog (convert 86 9 (Value.slice l3.1 l3.2 l3.3)) w5 = Result.ok (Value.string s12) w11 ∧
         R (Value.string s12) w11)))))
theorem vc_sums_Hex_ok {x0 : ByteArray} {w : World} {R : Value → World → Prop} {R' : Ending → World → Prop} (h : vc_sums_Hex x0 w R) (hR : ∀ v w', R v w' → R' (.returned v) w') :
    Calls Tryz.prog 17 #[.string x0] w R' :=
  calls_of_body (vs := [(.string x0, false)]) (ty := ty) (ann := ⟨[], [(3, [(3, .slice), (7, .int .i64)])], [(5, .held [(0, true), (1, true), (2, true), (3, true), (4, true), (5, true), (6, true), (7, true), (8, true), (9, true), (10, true), (11, false), (12, false), (13, true)])], []⟩) (c := Tryz.f17.body.getD .skip) (by kernel_rfl) Tryz.func17 (by kernel_rfl) (by kernel_rfl) (Eq.mp (by kernel_rfl) h) hR
end Go.Proofs.YtfoeooddnmppnaaGreatDoor

/- Hex. Conditions: as named. -/
set_option linter.unusedVariables false
namespace Go.Proofs.YtfoeooddnmppnaaGreatDoor
open Go Vc HexM Go.Proofs

/-- 'Hex'. -/
theorem hex_spec (s : ByteArray) (hs : s.size ≤ 1000000000) (w : World) : Calls Tryz.prog F_sums_Hex #[.string s] w fun e w' => e = .returned (.string ⟨(hexL s.data.toList).toArray⟩) ∧ Fr (fun _ => False) w w' := by
  refine vc_sums_Hex_ok (R := fun v w' => v = .string ⟨(hexL s.data.toList).toArray⟩ ∧ Fr (fun _ => False) w w') ?_ (fun v w' h => ⟨by rw [h.1], h.2⟩)
  refine ⟨fun l n w' => ∃ k : Nat, n = k ∧ k ≤ s.size ∧ Vc.Own w' w.heap.size T_uint8 l (byteV (hexL (s.data.toList.take k))) ∧ Fr (fun _ => False) w w', fun _ n _ => s.size - n.toNat, ⟨0, rfl, Nat.zero_le _, .nil _ _ _, .refl _ _⟩, ?_⟩
  rintro l3 n w5 ⟨k, rfl, hk, ho, hf⟩
  have e1 : IntKind.i64.wrap ((k : Int) + 1) = ((k + 1 : Nat) : Int) := by rw [wrap_i64 (by omega) (by omega)]; omega
  rw [e1]
  have hln : (byteV (hexL (s.data.toList.take k))).length = 2 * k := by rw [bv_len, hexL_length, List.length_take, bs_len]; omega
  refine ⟨fun hlt w6 d6 => ?_, fun hge => ?_⟩
  · have hlt := of_decide_eq_true hlt
    have hb := byt_lt s k
    rw [byteAt_nat]
    have e2 : Int.fdiv ((byt s k : Nat) : Int) (2 ^ min (Int.toNat 4) 8) = ((byt s k / 16 : Nat) : Int) := by
      rw [show (2 : Int) ^ min (Int.toNat 4) 8 = ((16 : Nat) : Int) from rfl, Int.fdiv_eq_ediv_of_nonneg _ (Int.natCast_nonneg _), ← Int.natCast_ediv]
    have e3 : IntKind.u8.wrap (((BitVec.ofInt 8 ((byt s k : Nat) : Int) &&& BitVec.ofInt 8 15).toNat : Nat) : Int) = ((byt s k % 16 : Nat) : Int) := by
      rw [show (15 : Int) = ((15 : Nat) : Int) from rfl, and_nat 8 _ _ (by omega) (by decide), and15 _ hb, wrap_u8 (by omega) (by omega)]
    rw [e2, e3, hexdig_at _ (by omega), hexdig_at _ (by omega)]
    refine ⟨fun _ => True, trivial, ⟨by omega, by omega⟩, by decide, ⟨by omega, ?_⟩, ⟨by omega, by omega⟩, ⟨by omega, ?_⟩, fun w8 h8 => ⟨trivial, ?_⟩⟩
    · rw [show ByteArray.size ⟨#[48, 49, 50, 51, 52, 53, 54, 55, 56, 57, 97, 98, 99, 100, 101, 102]⟩ = 16 from rfl]; omega
    · rw [show ByteArray.size ⟨#[48, 49, 50, 51, 52, 53, 54, 55, 56, 57, 97, 98, 99, 100, 101, 102]⟩ = 16 from rfl]; omega
    obtain ⟨w9, l10, hr, ho9, hf9, _⟩ := append_new elByteH (ho.drew d6) (news := [.int .u8 (hx (byt s k / 16) : Nat), .int .u8 (hx (byt s k % 16) : Nat)]) (by simp [Value.oneCell']) (by rw [hln]; simp only [List.length_cons, List.length_nil]; unfold maxLen; omega) (by rw [hln]; simp only [List.length_cons, List.length_nil]; omega) (Nat.le_trans hf.size (by rw [d6.heap]; exact Nat.le_refl _)) h8 rfl
    refine ⟨w9, l10, hr, trivial, ⟨k + 1, rfl, by omega, ?_, ?_⟩, by dsimp only; omega⟩
    · rw [bs_take (by omega), hexL_snoc, toNat_of _ hb]
      have h1 := hx_lt (n := byt s k / 16) (by omega)
      have h2 := hx_lt (n := byt s k % 16) (by omega)
      have : byteV (hexL (s.data.toList.take k)) ++ [.int .u8 (hx (byt s k / 16) : Nat), .int .u8 (hx (byt s k % 16) : Nat)] = byteV (hexL (s.data.toList.take k) ++ [UInt8.ofNat (hx (byt s k / 16)), UInt8.ofNat (hx (byt s k % 16))]) := by
        simp [byteV]; omega
      rw [← this]; exact ho9
    · exact (hf.trans' (.drew _ d6)).trans hf9 fun q hq ⟨y, hy, e⟩ => by
        have := (ho.blk hy).1; omega
  · have hge := of_decide_eq_false hge
    have : k = s.size := by omega
    subst this
    rw [bs_all] at ho
    exact ⟨_, _, bytes_str (e := T_uint8) (by kernel_rfl) (by kernel_rfl) (by kernel_rfl) l3.cap ho.reads (by rw [ho.len, bv_len]), rfl, hf⟩
end Go.Proofs.YtfoeooddnmppnaaGreatDoor

/- Base 64 in plain. No condition. -/
set_option linter.unusedVariables false
namespace B64M
/-- The 64 digits. -/
def dig : List UInt8 := [65, 66, 67, 68, 69, 70, 71, 72, 73, 74, 75, 76, 77, 78, 79, 80, 81, 82, 83, 84, 85, 86, 87, 88, 89, 90, 97, 98, 99, 100, 101, 102, 103, 104, 105, 106, 107, 108, 109, 110, 111, 112, 113, 114, 115, 116, 117, 118, 119, 120, 121, 122, 48, 49, 50, 51, 52, 53, 54, 55, 56, 57, 43, 47]
def d64 (n : Nat) : UInt8 := dig.getD n 0
/-- The text of bytes, three at a time. -/
def b64L : List UInt8 → List UInt8
  | [] => []
  | [a] => [d64 (a.toNat / 4), d64 (a.toNat % 4 * 16), 61, 61]
  | [a, b] => [d64 (a.toNat / 4), d64 (a.toNat % 4 * 16 + b.toNat / 16), d64 (b.toNat % 16 * 4), 61]
  | a :: b :: c :: r => d64 (a.toNat / 4) :: d64 (a.toNat % 4 * 16 + b.toNat / 16) :: d64 (b.toNat % 16 * 4 + c.toNat / 64) :: d64 (c.toNat % 64) :: b64L r
theorem b64_len : ∀ l : List UInt8, (b64L l).length = 4 * ((l.length + 2) / 3)
  | [] => rfl
  | [a] => by simp [b64L]
  | [a, b] => by simp [b64L]
  | a :: b :: c :: r => by
    rw [b64L]
    simp only [List.length_cons]
    rw [b64_len r]; omega
theorem b64_app : ∀ (k : Nat) (l r : List UInt8), l.length = 3 * k → b64L (l ++ r) = b64L l ++ b64L r
  | 0, l, r, h => by
    rw [List.length_eq_zero_iff.1 (by omega : l.length = 0)]; rfl
  | k + 1, a :: b :: c :: l, r, h => by
    have ih := b64_app k l r (by simp only [List.length_cons] at h; omega)
    simp only [List.cons_append]
    rw [b64L, b64L, ih]; rfl
  | k + 1, [], r, h => by simp at h
  | k + 1, [a], r, h => by simp only [List.length_cons, List.length_nil] at h; omega
  | k + 1, [a, b], r, h => by simp only [List.length_cons, List.length_nil] at h; omega
end B64M
namespace B64M
/-- The four letters of a text's first three bytes. -/
def quad (l : List UInt8) : List UInt8 := [d64 ((l.getD 0 0).toNat / 4), d64 ((l.getD 0 0).toNat % 4 * 16 + (l.getD 1 0).toNat / 16),
  if 2 ≤ l.length then d64 ((l.getD 1 0).toNat % 16 * 4 + (l.getD 2 0).toNat / 64) else 61, if 3 ≤ l.length then d64 ((l.getD 2 0).toNat % 64) else 61]
theorem b64_quad : ∀ l : List UInt8, l ≠ [] → b64L l = quad l ++ b64L (l.drop 3)
  | [], h => absurd rfl h
  | [a], _ => by simp [b64L, quad]
  | [a, b], _ => by simp [b64L, quad]
  | a :: b :: c :: r, _ => by simp [b64L, quad]
theorem quad_len (l : List UInt8) : (quad l).length = 4 := rfl
end B64M

/- Formulas of 1 Go functions of this seat (written by a program of the author's, vcgen.py), and that each is enough for the call. No condition. -/
set_option linter.unusedVariables false
namespace Go.Proofs.YtfoeooddnmppnaaGreatDoor
open Go Vc Go.Proofs
set_option maxRecDepth 100000
/-- sums.Base64 -/
def vc_sums_Base64 (x0 : ByteArray) (w : World) (R : Value → World → Prop) : Prop :=
  ∃ I1 : ByteArray → Sl → World → Prop, ∃ I2 : ByteArray → Sl → World → Nat, (I1 x0 (Sl.mk none 0 0) w ∧
   ∀ s3 : ByteArray,
   ∀ l4 : Sl,
   ∀ w5 : World,
   (I1 s3 l4 w5 →
     (((decide ((↑(ByteArray.size s3) : Int) > 0) = true →
        ∀ w6 : World,
        (w6 = World.alloc w5 (Obj.cells (Array.mk [Value.int IntKind.u8 0, Value.int IntKind.u8 0, Value.int IntKind.u8 0]) 88) →
          ∃ w7 : World, ∃ n8 : Int, (Sem.run Tryz.prog (Builtin.copy_ (Array.mk [86, 9]) 3 (Array.mk [Value.slice (subA (some (Addr.mk (Array.size (World.heap w5)) 0 none)) 3 0 1) 3 3, Value.string s3])) w6 = Result.ok (Value.int IntKind.i64 n8) w7 ∧
           (((0 : Int) ≤ (0 : Int) ∧
             (0 : Int) < (↑(3 : Nat) : Int)) ∧
            ∃ n9 : Int, (World.cell? w7 (Addr.add (Addr.mk (Array.size (World.heap w5)) 0 none) (Int.toNat 0 * 1)) = some (Value.int IntKind.u8 n9) ∧
             ((0 : Int) ≤ (16 : Int) ∧
              (((0 : Int) ≤ (1 : Int) ∧
                (1 : Int) < (↑(3 : Nat) : Int)) ∧
               ∃ n10 : Int, (World.cell? w7 (Addr.add (Addr.mk (Array.size (World.heap w5)) 0 none) (Int.toNat 1 * 1)) = some (Value.int IntKind.u8 n10) ∧
                ((0 : Int) ≤ (8 : Int) ∧
                 (((0 : Int) ≤ (2 : Int) ∧
                   (2 : Int) < (↑(3 : Nat) : Int)) ∧
                  ∃ n11 : Int, (World.cell? w7 (Addr.add (Addr.mk (Array.size (World.heap w5)) 0 none) (Int.toNat 2 * 1)) = some (Value.int IntKind.u8 n11) ∧
                   ∃ I12 : Sl → Int → World → Prop, ∃ I13 : Sl → Int → World → Nat, (I12 (Sl.mk l4.1 l4.2 l4.3) 0 w7 ∧
                    ∀ l14 : Sl,
                    ∀ n15 : Int,
                    ∀ w16 : World,
                    (I12 l14 n15 w16 →
                      (((decide (n15 < 4) = true →
                         ((((decide (n15 ≤ if 3 < (↑(ByteArray.size s3) : Int) then 3 else (↑(ByteArray.size s3) : Int)) = true) →
                            (0 ≤ IntKind.wrap IntKind.i64 (18 - IntKind.wrap IntKind.i64 (6 * n15)) ∧
                             ((0 ≤ IntKind.wrap IntKind.u32 (↑(BitVec.toNat (BitVec.ofInt 32 (Int.fdiv (IntKind.wrap IntKind.u32 (↑(BitVec.toNat (BitVec.ofInt 32 (IntKind.wrap IntKind.u32 (↑(BitVec.toNat (BitVec.ofInt 32 (IntKind.wrap IntKind.u32 (IntKind.wrap IntKind.u32 n9 * 2 ^ min (Int.toNat 16) 32)) ||| BitVec.ofInt 32 (IntKind.wrap IntKind.u32 (IntKind.wrap IntKind.u32 n10 * 2 ^ min (Int.toNat 8) 32)))) : Int)) ||| BitVec.ofInt 32 (IntKind.wrap IntKind.u32 n11))) : Int)) (2 ^ min (Int.toNat (IntKind.wrap IntKind.i64 (18 - IntKind.wrap IntKind.i64 (6 * n15)))) 32)) &&& BitVec.ofInt 32 63)) : Int) ∧
                               IntKind.wrap IntKind.u32 (↑(BitVec.toNat (BitVec.ofInt 32 (Int.fdiv (IntKind.wrap IntKind.u32 (↑(BitVec.toNat (BitVec.ofInt 32 (IntKind.wrap IntKind.u32 (↑(BitVec.toNat (BitVec.ofInt 32 (IntKind.wrap IntKind.u32 (IntKind.wrap IntKind.u32 n9 * 2 ^ min (Int.toNat 16) 32)) ||| BitVec.ofInt 32 (IntKind.wrap IntKind.u32 (IntKind.wrap IntKind.u32 n10 * 2 ^ min (Int.toNat 8) 32)))) : Int)) ||| BitVec.ofInt 32 (IntKind.wrap IntKind.u32 n11))) : Int)) (2 ^ min (Int.toNat (IntKind.wrap IntKind.i64 (18 - IntKind.wrap IntKind.i64 (6 * n15)))) 32)) &&& BitVec.ofInt 32 63)) : Int) < (↑(ByteArray.size (ByteArray.mk (Array.mk [65, 66, 67, 68, 69, 70, 71, 72, 73, 74, 75, 76, 77, 78, 79, 80, 81, 82, 83, 84, 85, 86, 87, 88, 89, 90, 97, 98, 99, 100, 101, 102, 103, 104, 105, 106, 107, 108, 109, 110, 111, 112, 113, 114, 115, 116, 117, 118, 119, 120, 121, 122, 48, 49, 50, 51, 52, 53, 54, 55, 56, 57, 43, 47]))) : Int)) ∧
                              ∀ w17 : World,
                              (w17 = World.alloc w16 (Obj.cells (Array.mk [Value.int IntKind.u8 (byteAt (ByteArray.mk (Array.mk [65, 66, 67, 68, 69, 70, 71, 72, 73, 74, 75, 76, 77, 78, 79, 80, 81, 82, 83, 84, 85, 86, 87, 88, 89, 90, 97, 98, 99, 100, 101, 102, 103, 104, 105, 106, 107, 108, 109, 110, 111, 112, 113, 114, 115, 116, 117, 118, 119, 120, 121, 122, 48, 49, 50, 51, 52, 53, 54, 55, 56, 57, 43, 47])) (IntKind.wrap IntKind.u32 (↑(BitVec.toNat (BitVec.ofInt 32 (Int.fdiv (IntKind.wrap IntKind.u32 (↑(BitVec.toNat (BitVec.ofInt 32 (IntKind.wrap IntKind.u32 (↑(BitVec.toNat (BitVec.ofInt 32 (IntKind.wrap IntKind.u32 (IntKind.wrap IntKind.u32 n9 * 2 ^ min (Int.toNat 16) 32)) ||| BitVec.ofInt 32 (IntKind.wrap IntKind.u32 (IntKind.wrap IntKind.u32 n10 * 2 ^ min (Int.toNat 8) 32)))) : Int)) ||| BitVec.ofInt 32 (IntKind.wrap IntKind.u32 n11))) : Int)) (2 ^ min (Int.toNat (IntKind.wrap IntKind.i64 (18 - IntKind.wrap IntKind.i64 (6 * n15)))) 32)) &&& BitVec.ofInt 32 63)) : Int)))]) 5) →
                                ∃ w18 : World, ∃ l19 : Sl, (Sem.run Tryz.prog (Builtin.append_ (Array.mk [86, 86]) 86 (Array.mk [Value.slice l14.1 l14.2 l14.3, Value.slice (some (Addr.mk (Array.size (World.heap w16)) 0 none)) 1 1])) w17 = Result.ok (Value.slice l19.1 l19.2 l19.3) w18 ∧
                                 (I12 (Sl.mk l19.1 l19.2 l19.3) (IntKind.wrap IntKind.i64 (n15 + 1)) w18 ∧
                                  I13 (Sl.mk l19.1 l19.2 l19.3) (IntKind.wrap IntKind.i64 (n15 + 1)) w18 < I13 l14 n15 w16))))))) ∧
                          ((decide (n15 ≤ if 3 < (↑(ByteArray.size s3) : Int) then 3 else (↑(ByteArray.size s3) : Int)) = false) →
                            ∀ w20 : World,
                            (w20 = World.alloc w16 (Obj.cells (Array.mk [Value.int IntKind.u8 61]) 5) →
                              ∃ w21 : World, ∃ l22 : Sl, (Sem.run Tryz.prog (Builtin.append_ (Array.mk [86, 86]) 86 (Array.mk [Value.slice l14.1 l14.2 l14.3, Value.slice (some (Addr.mk (Array.size (World.heap w16)) 0 none)) 1 1])) w20 = Result.ok (Value.slice l22.1 l22.2 l22.3) w21 ∧
                               (I12 (Sl.mk l22.1 l22.2 l22.3) (IntKind.wrap IntKind.i64 (n15 + 1)) w21 ∧
                                I13 (Sl.mk l22.1 l22.2 l22.3) (IntKind.wrap IntKind.i64 (n15 + 1)) w21 < I13 l14 n15 w16))))))) ∧
                       (decide (n15 < 4) = false →
                         (((0 ≤ if 3 < (↑(ByteArray.size s3) : Int) then 3 else (↑(ByteArray.size s3) : Int)) ∧
                           ((if 3 < (↑(ByteArray.size s3) : Int) then 3 else (↑(ByteArray.size s3) : Int)) ≤ (↑(ByteArray.size s3) : Int))) ∧
                          ((I1 (ByteArray.extract s3 (Int.toNat (if 3 < (↑(ByteArray.size s3) : Int) then 3 else (↑(ByteArray.size s3) : Int))) (ByteArray.size s3)) (Sl.mk l14.1 l14.2 l14.3) w16) ∧
                           (I2 (ByteArray.extract s3 (Int.toNat (if 3 < (↑(ByteArray.size s3) : Int) then 3 else (↑(ByteArray.size s3) : Int))) (ByteArray.size s3)) (Sl.mk l14.1 l14.2 l14.3) w16 < I2 s3 l4 w5))))))))))))))))))) ∧
      (decide ((↑(ByteArray.size s3) : Int) > 0) = false →
        ∃ w23 : World, ∃ s24 : ByteArray, (Sem.run Tryz.prog (convert 86 9 (Value.slice l4.1 l4.2 l4.3)) w5 = Result.ok (Value.string s24) w23 ∧
         R (Value.string s24) w23)))))
theorem vc_sums_Base64_ok {x0 : ByteArray} {w : World} {R : Value → World → Prop} {R' : Ending → World → Prop} (h : vc_sums_Base64 x0 w R) (hR : ∀ v w', R v w' → R' (.returned v) w') :
    Calls Tryz.prog 19 #[.string x0] w R' :=
  calls_of_body (vs := [(.string x0, false)]) (ty := ty) (ann := ⟨[], [(2, [(0, .str), (3, .slice)]), (8, [(3, .slice), (30, .int .i64)])], [], []⟩) (c := Tryz.f19.body.getD .skip) (by kernel_rfl) Tryz.func19 (by kernel_rfl) (by kernel_rfl) (Eq.mp (by kernel_rfl) h) hR
end Go.Proofs.YtfoeooddnmppnaaGreatDoor

/- sums.Base64: the text of any bytes. Condition: the text is no longer than a hundred million bytes. -/
set_option linter.unusedVariables false
namespace Go.Proofs.YtfoeooddnmppnaaGreatDoor
open Go Vc Go.Proofs B64M

theorem run_copy_row_str {P : Program} (w : World) (dT sT ty elem : TypeId) (g dLen dCap : Nat) (s : ByteArray) (cur : Array Value) (t : TypeId)
    (hu : P.underlying dT = some (.slice elem)) (hs : (P.info? elem).map (·.size) = some 1) (hg : w.heap[g]? = some (.cells cur t (0, 0))) (hfit : Nat.min s.size dLen ≤ cur.size) :
    (Builtin.copy_ #[dT, sT] ty #[.slice (some ⟨g, 0, none⟩) dLen dCap, .string s]).run P w =
      .ok (goInt (Nat.min s.size dLen)) (w.setRow g (byteV (s.data.toList.take (Nat.min s.size dLen)) ++ cur.toList.drop (Nat.min s.size dLen)).toArray) := by
  have hlen : (byteV (s.data.toList.take (Nat.min s.size dLen))).length = Nat.min s.size dLen := by
    have : Nat.min s.size dLen ≤ s.size := Nat.min_le_left _ _
    rw [bv_len, List.length_take, bs_len]; omega
  have hst := run_storeCells_at P g 0 t (byteV (s.data.toList.take (Nat.min s.size dLen))) 0 cur w hg (by rw [hlen]; simpa using hfit) (bv_one _)
  have htk : List.take (Nat.min s.size dLen) (List.map (fun b : UInt8 => Value.int IntKind.u8 (b.toNat : Int)) s.data.toList) = byteV (s.data.toList.take (Nat.min s.size dLen)) := by
    unfold byteV; rw [List.map_take]
  rw [hlen] at hst
  simp only [Nat.add_zero, List.take_zero, List.nil_append, Nat.zero_add] at hst
  cases hq : P.info? elem with
  | none => simp [hq] at hs
  | some i =>
    simp [Builtin.copy_, run_underlying hu, Builtin.lenOf, Builtin.firstCells, sizeOf, typeInfo, hq]
    rw [htk, hst]
    simp [Result.andThen]
theorem setRow_frB (X : Nat → Prop) (w : World) (g : Nat) (cs : Array Value) (h : X g) : Fr X w (w.setRow g cs) :=
  ⟨rfl, rfl, rfl, by simp [World.setRow], fun k _ hk => setRow_other w g k cs (fun e => hk (e ▸ h))⟩
theorem d64_at (k : Nat) (h : k < 64) : byteAt ⟨#[65, 66, 67, 68, 69, 70, 71, 72, 73, 74, 75, 76, 77, 78, 79, 80, 81, 82, 83, 84, 85, 86, 87, 88, 89, 90, 97, 98, 99, 100, 101, 102, 103, 104, 105, 106, 107, 108, 109, 110, 111, 112, 113, 114, 115, 116, 117, 118, 119, 120, 121, 122, 48, 49, 50, 51, 52, 53, 54, 55, 56, 57, 43, 47]⟩ (k : Int) = (((d64 k).toNat : Nat) : Int) := by
  have key : ∀ k : Fin 64, byteAt ⟨#[65, 66, 67, 68, 69, 70, 71, 72, 73, 74, 75, 76, 77, 78, 79, 80, 81, 82, 83, 84, 85, 86, 87, 88, 89, 90, 97, 98, 99, 100, 101, 102, 103, 104, 105, 106, 107, 108, 109, 110, 111, 112, 113, 114, 115, 116, 117, 118, 119, 120, 121, 122, 48, 49, 50, 51, 52, 53, 54, 55, 56, 57, 43, 47]⟩ ((k : Nat) : Int) = (((d64 k).toNat : Nat) : Int) := by decide +kernel
  exact key ⟨k, h⟩
/-- Three bytes as a number, shifted and cut to six bits. -/
theorem six_of (a b c s : Nat) (ha : a < 256) (hb : b < 256) (hc : c < 256) (hs : s ≤ 18) :
    IntKind.u32.wrap (BitVec.toNat (BitVec.ofInt 32 (Int.fdiv (IntKind.u32.wrap (BitVec.toNat (BitVec.ofInt 32 (IntKind.u32.wrap (BitVec.toNat (BitVec.ofInt 32 (IntKind.u32.wrap (IntKind.u32.wrap (a : Int) * 2 ^ min (Int.toNat 16) 32)) ||| BitVec.ofInt 32 (IntKind.u32.wrap (IntKind.u32.wrap (b : Int) * 2 ^ min (Int.toNat 8) 32))) : Int)) ||| BitVec.ofInt 32 (IntKind.u32.wrap (c : Int))) : Int)) (2 ^ min s 32)) &&& BitVec.ofInt 32 63) : Int) = (((a * 65536 + b * 256 + c) / 2 ^ s % 64 : Nat) : Int) := by
  have p16 : (2 : Int) ^ min (Int.toNat 16) 32 = 65536 := by decide
  have p8 : (2 : Int) ^ min (Int.toNat 8) 32 = 256 := by decide
  rw [p16, p8, wrap_u32 (x := (a : Int)) (by omega) (by omega), wrap_u32 (x := (b : Int)) (by omega) (by omega), wrap_u32 (x := (c : Int)) (by omega) (by omega), wrap_u32 (x := (a : Int) * 65536) (by omega) (by omega), wrap_u32 (x := (b : Int) * 256) (by omega) (by omega),
    show (a : Int) * 65536 = ((a * 65536 : Nat) : Int) by omega, show (b : Int) * 256 = ((b * 256 : Nat) : Int) by omega, or_nat 32 _ _ (by omega) (by omega)]
  have o1 : a * 65536 ||| b * 256 = a * 65536 + b * 256 := by
    have := Nat.shiftLeft_add_eq_or_of_lt (i := 16) (b := b * 256) (by omega) a
    rw [Nat.shiftLeft_eq] at this
    exact this.symm
  have o2 : (a * 65536 + b * 256) ||| c = a * 65536 + b * 256 + c := by
    have := Nat.shiftLeft_add_eq_or_of_lt (i := 8) (b := c) (by omega) (a * 256 + b)
    have e : (a * 256 + b) <<< 8 = a * 65536 + b * 256 := by
      rw [Nat.shiftLeft_eq]
      show (a * 256 + b) * 256 = _
      omega
    rw [e] at this
    exact this.symm
  rw [o1, wrap_u32 (x := ((a * 65536 + b * 256 : Nat) : Int)) (by omega) (by omega), or_nat 32 _ _ (by omega) (by omega), o2, wrap_u32 (x := ((a * 65536 + b * 256 + c : Nat) : Int)) (by omega) (by omega)]
  generalize hN : a * 65536 + b * 256 + c = N
  have hNl : N < 16777216 := by omega
  have p2 : (2 : Int) ^ min s 32 = ((2 ^ s : Nat) : Int) := by rw [Nat.min_eq_left (by omega)]; push_cast; rfl
  rw [p2, Int.fdiv_eq_ediv_of_nonneg _ (Int.natCast_nonneg _), ← Int.natCast_ediv]
  have hq : N / 2 ^ s < 4294967296 := Nat.lt_of_le_of_lt (Nat.div_le_self _ _) (by omega)
  generalize N / 2 ^ s = q at *
  rw [show (63 : Int) = ((63 : Nat) : Int) by rfl, and_nat 32 _ _ (by omega) (by omega)]
  have : q &&& 63 = q % 64 := Nat.and_two_pow_sub_one_eq_mod q 6
  rw [this, wrap_u32 (by omega) (by omega)]
set_option maxHeartbeats 1000000 in
theorem base64_spec (s : ByteArray) (hs : s.size ≤ 100000000) (w : World) : Calls Tryz.prog F_sums_Base64 #[.string s] w fun e w' => e = .returned (.string ⟨(b64L s.data.toList).toArray⟩) ∧ Fr (fun _ => False) w w' := by
  refine vc_sums_Base64_ok (R := fun v w' => v = .string ⟨(b64L s.data.toList).toArray⟩ ∧ Fr (fun _ => False) w w') ?_ (fun v w' h => ⟨by rw [h.1], h.2⟩)
  refine ⟨fun t l w' => ∃ out : List UInt8, out ++ b64L t.data.toList = b64L s.data.toList ∧ t.size ≤ s.size ∧ out.length ≤ 4 * (s.size - t.size) ∧ Vc.Own w' w.heap.size T_uint8 l (byteV out) ∧ Fr (fun _ => False) w w', fun t _ _ => t.size,
    ⟨[], rfl, Nat.le_refl _, Nat.zero_le _, .nil _ _ _, .refl _ _⟩, ?_⟩
  rintro t l w5 ⟨out, hout, hts, hol, ho, hf⟩
  refine ⟨fun hpos w6 h6 => ?_, fun hz => ?_⟩
  · have hpos := of_decide_eq_true hpos
    obtain ⟨L, hL⟩ : ∃ L, t.data.toList = L := ⟨_, rfl⟩
    have hLl : L.length = t.size := by rw [← hL, bs_len]
    have hLne : L ≠ [] := fun h => by rw [h] at hLl; simp at hLl; omega
    rw [hL, b64_quad L hLne] at hout
    have hf6 : Fr (fun _ => False) w5 w6 := by rw [h6]; exact .alloc _ _ _
    have hb6 : w6.heap[w5.heap.size]? = some (.cells #[.int .u8 0, .int .u8 0, .int .u8 0] T_3_uint8 (0, 0)) := by rw [h6]; exact alloc_new _ _
    have hmin : Nat.min t.size 3 ≤ 3 := Nat.min_le_right _ _
    have hcp := run_copy_row_str (P := Tryz.prog) w6 T_S_uint8 T_string T_int T_uint8 w5.heap.size 3 3 t _ _ (by kernel_rfl) (by kernel_rfl) hb6 hmin
    have hsub : subA (some (⟨w5.heap.size, 0, none⟩ : Addr)) 3 0 1 = some ⟨w5.heap.size, 0, none⟩ := rfl
    rw [hsub]
    refine ⟨_, _, hcp, ?_⟩
    obtain ⟨w7, hw7⟩ : ∃ w7, w6.setRow w5.heap.size (byteV (t.data.toList.take (Nat.min t.size 3)) ++ (#[Value.int .u8 0, .int .u8 0, .int .u8 0] : Array Value).toList.drop (Nat.min t.size 3)).toArray = w7 := ⟨_, rfl⟩
    rw [hw7]
    have hf7 : Fr (fun _ => False) w5 w7 := by
      rw [← hw7]
      exact hf6.trans (setRow_frB (· = w5.heap.size) w6 _ _ rfl) fun q hq e => by omega
    have hb7 : w7.heap[w5.heap.size]? = some (.cells #[.int .u8 (((L.getD 0 0).toNat : Nat) : Int), .int .u8 (((L.getD 1 0).toNat : Nat) : Int), .int .u8 (((L.getD 2 0).toNat : Nat) : Int)] T_3_uint8 (0, 0)) := by
      rw [← hw7, setRow_heap w6 _ _ _ _ _ hb6, hL, ← hLl]
      have : ∀ M : List UInt8, M ≠ [] → (byteV (M.take (Nat.min M.length 3)) ++ (#[Value.int .u8 0, .int .u8 0, .int .u8 0] : Array Value).toList.drop (Nat.min M.length 3)).toArray = #[.int .u8 (((M.getD 0 0).toNat : Nat) : Int), .int .u8 (((M.getD 1 0).toNat : Nat) : Int), .int .u8 (((M.getD 2 0).toNat : Nat) : Int)] := fun M hM => by
        match M, hM with
        | [], h => exact absurd rfl h
        | [a], _ => rfl
        | [a, b], _ => rfl
        | a :: b :: c :: r, _ =>
          have : Nat.min (a :: b :: c :: r).length 3 = 3 := Nat.min_eq_right (by simp)
          rw [this]; rfl
      rw [this L hLne]
    have c0 : w7.cell? ((⟨w5.heap.size, 0, none⟩ : Addr).add (Int.toNat 0 * 1)) = some (.int .u8 (((L.getD 0 0).toNat : Nat) : Int)) := by rw [add_lit, cell_blk hb7]; rfl
    have c1 : w7.cell? ((⟨w5.heap.size, 0, none⟩ : Addr).add (Int.toNat 1 * 1)) = some (.int .u8 (((L.getD 1 0).toNat : Nat) : Int)) := by rw [add_lit, cell_blk hb7]; rfl
    have c2 : w7.cell? ((⟨w5.heap.size, 0, none⟩ : Addr).add (Int.toNat 2 * 1)) = some (.int .u8 (((L.getD 2 0).toNat : Nat) : Int)) := by rw [add_lit, cell_blk hb7]; rfl
    refine ⟨⟨by decide, by decide⟩, _, c0, by decide, ⟨by decide, by decide⟩, _, c1, by decide, ⟨by decide, by decide⟩, _, c2, ?_⟩
    have q0 : (L.getD 0 0).toNat < 256 := UInt8.toNat_lt _
    have q1 : (L.getD 1 0).toNat < 256 := UInt8.toNat_lt _
    have q2 : (L.getD 2 0).toNat < 256 := UInt8.toNat_lt _
    have hmn : (if 3 < (t.size : Int) then (3 : Int) else (t.size : Int)) = ((Nat.min t.size 3 : Nat) : Int) := by
      have : Nat.min t.size 3 = if 3 < t.size then 3 else t.size := by
        show min t.size 3 = _
        split <;> omega
      rw [this]
      split
      · rw [if_pos (by omega)]; rfl
      · rw [if_neg (by omega)]
    rw [hmn]
    have hq4 : ∀ i : Nat, i < 4 → (quad L)[i]? = some (if i ≤ Nat.min t.size 3 then d64 (((L.getD 0 0).toNat * 65536 + (L.getD 1 0).toNat * 256 + (L.getD 2 0).toNat) / 2 ^ (18 - 6 * i) % 64) else 61) := fun i hi => by
      have hm : Nat.min t.size 3 = min L.length 3 := by rw [hLl]
      rw [hm]
      match i, hi with
      | 0, _ =>
        rw [if_pos (Nat.zero_le _), show ((L.getD 0 0).toNat * 65536 + (L.getD 1 0).toNat * 256 + (L.getD 2 0).toNat) / 2 ^ (18 - 6 * 0) % 64 = (L.getD 0 0).toNat / 4 by omega]; rfl
      | 1, _ =>
        rw [if_pos (by omega), show ((L.getD 0 0).toNat * 65536 + (L.getD 1 0).toNat * 256 + (L.getD 2 0).toNat) / 2 ^ (18 - 6 * 1) % 64 = (L.getD 0 0).toNat % 4 * 16 + (L.getD 1 0).toNat / 16 by omega]; rfl
      | 2, _ =>
        rw [show ((L.getD 0 0).toNat * 65536 + (L.getD 1 0).toNat * 256 + (L.getD 2 0).toNat) / 2 ^ (18 - 6 * 2) % 64 = (L.getD 1 0).toNat % 16 * 4 + (L.getD 2 0).toNat / 64 by omega]
        by_cases h : 2 ≤ L.length
        · rw [if_pos (by omega)]; unfold quad; rw [if_pos h]; rfl
        · rw [if_neg (by omega)]; unfold quad; rw [if_neg h]; rfl
      | 3, _ =>
        rw [show ((L.getD 0 0).toNat * 65536 + (L.getD 1 0).toNat * 256 + (L.getD 2 0).toNat) / 2 ^ (18 - 6 * 3) % 64 = (L.getD 2 0).toNat % 64 by omega]
        by_cases h : 3 ≤ L.length
        · rw [if_pos (by omega)]; unfold quad; rw [if_pos h]; rfl
        · rw [if_neg (by omega)]; unfold quad; rw [if_neg h]; rfl
    have hN : ((L.getD 0 0).toNat * 65536 + (L.getD 1 0).toNat * 256 + (L.getD 2 0).toNat) < 16777216 := by omega
    have hs6 := fun s hs => six_of (L.getD 0 0).toNat (L.getD 1 0).toNat (L.getD 2 0).toNat s q0 q1 q2 hs
    generalize (L.getD 0 0).toNat = A at *
    generalize (L.getD 1 0).toNat = B at *
    generalize (L.getD 2 0).toNat = C at *
    have ho7 := ho.keep hf7 (by simp)
    refine ⟨fun l i w' => ∃ k : Nat, i = k ∧ k ≤ 4 ∧ Vc.Own w' w.heap.size T_uint8 l (byteV (out ++ (quad L).take k)) ∧ Fr (fun _ => False) w w', fun _ i _ => 4 - i.toNat, ⟨0, rfl, by decide, by rw [List.take_zero, List.append_nil]; exact ho7, hf.trans' hf7⟩, ?_⟩
    rintro l14 i w16 ⟨k, rfl, hk, ho16, hf16⟩
    refine ⟨fun hlt => ?_, fun hge => ?_⟩
    · have hlt := of_decide_eq_true hlt
      have hk4 : k < 4 := by omega
      have hqk := hq4 k hk4
      have e6 : IntKind.i64.wrap (6 * (k : Int)) = ((6 * k : Nat) : Int) := by rw [wrap_i64 (by omega) (by omega)]; omega
      have e18 : IntKind.i64.wrap (18 - ((6 * k : Nat) : Int)) = ((18 - 6 * k : Nat) : Int) := by rw [wrap_i64 (by omega) (by omega)]; omega
      have e1 : IntKind.i64.wrap ((k : Int) + 1) = ((k + 1 : Nat) : Int) := by rw [wrap_i64 (by omega) (by omega)]; omega
      rw [e6, e18, e1]
      have hbnd : (byteV (out ++ (quad L).take k)).length + 1 ≤ 400000010 := by
        rw [bv_len, List.length_append, List.length_take, quad_len]; omega
      have htk : (quad L).take (k + 1) = (quad L).take k ++ [if k ≤ Nat.min t.size 3 then d64 ((A * 65536 + B * 256 + C) / 2 ^ (18 - 6 * k) % 64) else 61] := by rw [List.take_add_one, hqk]; rfl
      have hdone : ∀ (c : UInt8) (w17 : World), (if k ≤ Nat.min t.size 3 then d64 ((A * 65536 + B * 256 + C) / 2 ^ (18 - 6 * k) % 64) else 61) = c → w17 = w16.alloc (.cells #[.int .u8 ((c.toNat : Nat) : Int)] T_uint8) →
          ∃ (w18 : World) (l19 : Sl), (Builtin.append_ #[T_S_uint8, T_S_uint8] T_S_uint8 #[.slice l14.a l14.len l14.cap, .slice (some ⟨w16.heap.size, 0, none⟩) 1 1]).run Tryz.prog w17 = .ok (.slice l19.a l19.len l19.cap) w18 ∧
            (∃ k' : Nat, ((k + 1 : Nat) : Int) = k' ∧ k' ≤ 4 ∧ Vc.Own w18 w.heap.size T_uint8 l19 (byteV (out ++ (quad L).take k')) ∧ Fr (fun _ => False) w w18) ∧ 4 - ((k + 1 : Nat) : Int).toNat < 4 - ((k : Int)).toNat := fun c w17 hc h17 => by
        obtain ⟨w18, l19, hr18, ho18, hf18⟩ := append_one elByte ho16 (v := .int .u8 ((c.toNat : Nat) : Int)) rfl (by unfold maxLen; omega) (by omega) hf16.size h17
        refine ⟨w18, l19, hr18, ⟨k + 1, rfl, by omega, ?_, hf16.trans hf18 fun q hq ⟨y, hy, e⟩ => by have := (ho16.blk hy).1; omega⟩, by omega⟩
        rw [htk, hc, ← List.append_assoc]
        have : byteV ((out ++ (quad L).take k) ++ [c]) = byteV (out ++ (quad L).take k) ++ [.int .u8 ((c.toNat : Nat) : Int)] := by simp [byteV]
        rw [this]; exact ho18
      refine ⟨fun hn => ?_, fun hn w20 h20 => ?_⟩
      · have hn := of_decide_eq_true hn
        rw [Int.toNat_natCast, hs6 (18 - 6 * k) (by omega)]
        have hm64 : (A * 65536 + B * 256 + C) / 2 ^ (18 - 6 * k) % 64 < 64 := Nat.mod_lt _ (by decide)
        refine ⟨by omega, ⟨by omega, ?_⟩, fun w17 h17 => ?_⟩
        · show _ < ((64 : Nat) : Int)
          omega
        · rw [d64_at _ hm64] at h17
          exact hdone _ w17 (if_pos (by omega)) h17
      · have hn := of_decide_eq_false hn
        exact hdone 61 w20 (if_neg (by omega)) h20
    · have hge := of_decide_eq_false hge
      have hk' : k = 4 := by omega
      subst hk'
      have hmt : Nat.min t.size 3 ≤ t.size := Nat.min_le_left _ _
      have hm1 : 1 ≤ Nat.min t.size 3 := by show 1 ≤ min t.size 3; omega
      have hm3 : Nat.min t.size 3 ≤ 3 := hmin
      rw [Int.toNat_natCast]
      have hsz : (t.extract (Nat.min t.size 3) t.size).size = t.size - Nat.min t.size 3 := by rw [ByteArray.size_extract]; omega
      refine ⟨⟨by omega, by omega⟩, ⟨out ++ quad L, ?_, by omega, ?_, by simpa [List.take_of_length_le (Nat.le_of_eq (quad_len L))] using ho16, hf16⟩, by dsimp only; omega⟩
      · have hdr : L.drop (Nat.min t.size 3) = L.drop 3 := by
          have hm : Nat.min t.size 3 = min L.length 3 := by rw [hLl]
          rw [hm]
          by_cases h3 : 3 ≤ L.length
          · rw [Nat.min_eq_right h3]
          · rw [Nat.min_eq_left (by omega), List.drop_length, List.drop_eq_nil_of_le (by omega)]
        rw [List.append_assoc, bs_tail, hL, hdr]
        exact hout
      · rw [List.length_append, quad_len, hsz]; omega
  · have hz := of_decide_eq_false hz
    have ht0 : t.size = 0 := by omega
    have : t.data.toList = [] := List.eq_nil_of_length_eq_zero (by rw [bs_len]; exact ht0)
    rw [this] at hout
    have hout : out = b64L s.data.toList := by rw [← hout]; exact (List.append_nil _).symm
    refine ⟨w5, _, bytes_str (P := Tryz.prog) (t := T_S_uint8) (d := T_string) elByte.sl (by kernel_rfl) (by kernel_rfl) l.cap ho.reads (by rw [ho.len, bv_len]), by rw [hout], hf⟩
end Go.Proofs.YtfoeooddnmppnaaGreatDoor

/- modzip.Hash: what go.sum says of a module's files. Conditions: at most a hundred files, and their paths with what stands ahead of them are no longer than 2 to the 49th bytes. -/
set_option linter.unusedVariables false
namespace Go.Proofs.YtfoeooddnmppnaaGreatDoor
open Go Vc ShaM HexM StabM B64M Go.Proofs

theorem sha_len (K : List ShaM.W) (t : List UInt8) : (digest (block2 K) start2 t).length = 32 := by
  have hl : (stt (block2 K) start2 (pad t)).length = 8 := blocks_length (f := block2 K) (fun h p hl => by rw [block2_length]; exact hl) _ _ _ rfl
  unfold digest
  match stt (block2 K) start2 (pad t), hl with
  | [a, b, c, d, e, f, g, h], _ => rfl
def sha2 (l : List UInt8) : List UInt8 := digest (block2 K256) start2 l
theorem sha2_len (l : List UInt8) : (sha2 l).length = 32 := sha_len _ _
/-- What is added up of a file. -/
def lineF (f : FileE) : List UInt8 := hexL (sha2 f.data.data.toList) ++ ([32, 32] ++ (f.path.data.toList ++ [10]))
theorem lineF_len (f : FileE) : (lineF f).length = 67 + f.path.size := by
  unfold lineF
  simp only [List.length_append, hexL_length, sha2_len, List.length_cons, List.length_nil, bs_len]; omega
theorem lines_len {B : Nat} : ∀ ys : List FileE, (∀ y ∈ ys, y.path.size ≤ B) → (ys.flatMap lineF).length ≤ ys.length * (67 + B)
  | [], _ => Nat.zero_le _
  | y :: r, h => by
    have ih := lines_len r fun z hz => h z (List.mem_cons_of_mem _ hz)
    have h1 := h y List.mem_cons_self
    rw [List.flatMap_cons, List.length_append, lineF_len, List.length_cons, Nat.succ_mul]; omega
def hashE (ys : List FileE) : ByteArray := ⟨#[104, 49, 58]⟩ ++ ⟨(b64L (sha2 (ys.flatMap lineF))).toArray⟩
theorem hashE_size (ys : List FileE) : (hashE ys).size = 47 := by
  unfold hashE
  rw [ByteArray.size_append]
  show 3 + _ = 47
  rw [bs_mksize, b64_len, sha2_len]
theorem hash_spec {w : World} {a : Option Addr} {n c : Nat} {xs : List FileE} (hr : ReadsK encF 2 w a xs) (hn : xs.length = n) (hl : n ≤ 100) (m v : ByteArray) (hs : ∀ x ∈ xs, (frontE m v).size + x.path.size ≤ 562949953421312) (hmv : m.size + v.size ≤ 4611686018427387904) (hd : ∀ x ∈ xs, x.data.size ≤ 1000000) :
    Calls Tryz.prog F_modzip_Hash #[.string m, .string v, .slice a n c] w fun e w' => ∃ ys : List FileE, e = .returned (.string (hashE ys)) ∧ ys.Perm (xs.map (preF (frontE m v))) ∧ Srt ltP ys ∧ (xs.length ≤ 20 → ys = isort ltP (xs.map (preF (frontE m v)))) ∧ Fr (fun _ => False) w w' := by
  refine vc_modzip_Hash_ok (R := fun u w' => ∃ ys : List FileE, u = .string (hashE ys) ∧ ys.Perm (xs.map (preF (frontE m v))) ∧ Srt ltP ys ∧ (xs.length ≤ 20 → ys = isort ltP (xs.map (preF (frontE m v)))) ∧ Fr (fun _ => False) w w') ?_ (fun u w' ⟨ys, h⟩ => ⟨ys, by rw [h.1], h.2⟩)
  refine (front_spec m v hmv w).mono ?_
  rintro e w2 ⟨rfl, hw⟩
  replace hw := hw.symm
  subst hw
  refine ⟨_, rfl, (prefixed_spec hr hn (by omega) (frontE m v) fun x hx => Nat.le_trans (hs x hx) (by decide)).mono ?_⟩
  rintro e w5 ⟨l, rfl, ho5, hf5⟩
  have hll := ho5.len
  rw [List.length_map] at hll
  refine ⟨l, rfl, (stable_hash ho5 (by omega)).mono ?_⟩
  rintro e w8 ⟨rfl, ys, ho8, hp8, hs8, hi8, hf8⟩
  rw [List.length_map] at hi8
  have hf8' : Fr (fun _ => False) w w8 := hf5.trans hf8 fun q hq ⟨y, hy, e⟩ => by have := (ho5.blk hy).1; omega
  have hyl : ys.length = xs.length := by rw [hp8.length_eq, List.length_map]
  have hyb : ∀ y ∈ ys, y.path.size ≤ 562949953421312 ∧ y.data.size ≤ 1000000 := fun y hy => by
    obtain ⟨x, hx, rfl⟩ := List.mem_map.1 (hp8.subset hy)
    exact ⟨by unfold preF; rw [ByteArray.size_append]; exact hs x hx, hd x hx⟩
  refine ⟨rfl, fun w9 h9 => ?_⟩
  have hf9 : Fr (fun _ => False) w8 w9 := by rw [h9]; exact .alloc _ _ _
  have hh9 := HashAt.zero (T := T_sha_Hash256) (block2 K256) start2 h9
  obtain ⟨b, hb⟩ : ∃ b, w8.heap.size = b := ⟨_, rfl⟩
  rw [hb] at hh9 ⊢
  have hlb : ∀ y, l.a = some y → y.block < b := fun y hy => hb ▸ (ho8.blk hy).2
  have hwb : w.heap.size ≤ b := hb ▸ hf8'.size
  refine ⟨fun i w' => ∃ k : Nat, i = k ∧ k ≤ ys.length ∧ OwnK encF 2 w' w.heap.size T_api_File l ys ∧ (∃ sl, HashAt w' b b sl T_sha_Hash256 (block2 K256) start2 ((ys.take k).flatMap lineF)) ∧ Fr (fun _ => False) w w', fun i _ => ys.length - i.toNat,
    ⟨0, rfl, Nat.zero_le _, ho8.keep hf9 (by simp), ⟨_, hh9⟩, hf8'.trans' hf9⟩, ?_⟩
  clear hh9 hf9 h9 ho8
  rintro i w13 ⟨k, rfl, hk, ho, ⟨sl, hh⟩, hf⟩
  have hkl2 : ((ys.take k).flatMap lineF).length ≤ 100 * (67 + 562949953421312) := by
    have h1 := lines_len (B := 562949953421312) (ys.take k) fun y hy => (hyb y (List.mem_of_mem_take hy)).1
    rw [List.length_take] at h1
    exact Nat.le_trans h1 (Nat.mul_le_mul_right _ (by omega))
  refine ⟨fun hlt => ?_, fun hge => ?_⟩
  · have hlt := of_decide_eq_true hlt
    have hkl : k < ys.length := by omega
    have hx : ys[k]? = some ys[k] := List.getElem?_eq_getElem hkl
    have htk : ys.take (k + 1) = ys.take k ++ [ys[k]] := (List.take_append_getElem hkl).symm
    generalize ys[k] = x at hx htk
    have hxm := List.mem_of_getElem? hx
    obtain ⟨hx1, hx2⟩ := hyb x hxm
    obtain ⟨ad, had, hld⟩ := load_at ho hx
    refine ⟨⟨by omega, by omega⟩, ad, had, x.path, x.data, by rw [Int.toNat_natCast]; exact hld w13 (.refl _ _), fun w17 h17 => ?_⟩
    subst h17
    obtain ⟨w18, hw18⟩ : ∃ w18, w13.alloc (.cells (encF x).toArray T_api_File) = w18 := ⟨_, rfl⟩
    have hfb : Fr (fun _ => False) w13 w18 := by rw [← hw18]; exact .alloc _ _ _
    have hcell : ∀ w', Fr (fun _ => False) w18 w' → ∀ (j : Nat) v, (encF x)[j]? = some v → w'.cell? ⟨w13.heap.size, j, none⟩ = some v := fun w' hw' j v hv => by
      rw [← hw18] at hw'; exact boxF_cell w13 x hw' (by simp) hv
    refine ⟨w18, by rw [← hw18]; exact boxF_run w13 x, fun w19 d19 => ⟨fun w' => Fr (fun _ => False) w19 w', .refl _ _, x.data, fun w' hw' => hcell w' (.trans' (.drew _ d19) hw') 1 _ rfl, x.path, fun w' hw' => hcell w' (.trans' (.drew _ d19) hw') 0 _ rfl, (sum256_spec x.data (by omega) w19).mono ?_⟩⟩
    rintro e w26 ⟨rfl, hf26⟩
    refine ⟨_, rfl, hf26, (hex_spec _ (by rw [bs_mksize]; exact Nat.le_trans (Nat.le_of_eq (sha_len _ _)) (by decide)) w26).mono ?_⟩
    rintro e w29 ⟨rfl, hf29⟩
    rw [bs_mk]
    have hhx : (ByteArray.mk (hexL (digest (block2 K256) start2 x.data.data.toList)).toArray).size = 64 := by rw [bs_mksize, hexL_length, sha_len]
    have hfw : Fr (fun _ => False) w13 w29 := (hfb.trans' (.drew _ d19)).trans' (hf26.trans' hf29)
    have hhw := hh.keep hfw (by simp) (by simp)
    refine ⟨_, rfl, hf26.trans' hf29, ?_, ?_, ?_, ?_⟩
    · rw [hhx]; decide
    · rw [ByteArray.size_append, hhx]
      show 64 + 2 + x.path.size ≤ _
      omega
    · rw [ByteArray.size_append, ByteArray.size_append, hhx]
      show 64 + 2 + x.path.size + 1 ≤ _
      omega
    have hline : (ByteArray.mk (hexL (digest (block2 K256) start2 x.data.data.toList)).toArray ++ ⟨#[32, 32]⟩ ++ x.path ++ ⟨#[10]⟩).data.toList = lineF x := by
      simp only [bs_app, List.append_assoc]; rfl
    refine (h256write_spec hhw _ ?_).mono ?_
    · rw [ByteArray.size_append, ByteArray.size_append, ByteArray.size_append, hhx]
      show _ + (64 + 2 + x.path.size + 1) ≤ _
      omega
    rintro e w32 ⟨rfl, sl', hh32, hf32, _⟩
    rw [hline] at hh32
    have hbs : ∀ y, sl.a = some y → b ≤ y.block := fun y hy => by
      rcases hhw.own with ⟨h, _⟩ | ⟨h, _⟩
      · rw [h] at hy; cases hy
      · exact (h.blk hy).1
    have e1 : IntKind.i64.wrap ((k : Int) + 1) = ((k + 1 : Nat) : Int) := by rw [wrap_i64 (by omega) (by omega)]; omega
    rw [e1]
    refine ⟨rfl, ⟨k + 1, rfl, by omega, (ho.keep hfw (by simp)).keep hf32 fun y hy h => ?_, ⟨sl', ?_⟩, (hf.trans' hfw).trans hf32 fun q hq h => ?_⟩, by dsimp only; omega⟩
    · have h1 := hlb y hy
      rcases h with h | ⟨z, hz, e⟩
      · omega
      · have := hbs z hz; omega
    · rw [htk, List.flatMap_append, List.flatMap_cons, List.flatMap_nil, List.append_nil]
      exact hh32
    · rcases h with h | ⟨z, hz, e⟩
      · omega
      · have := hbs z hz; omega
  · have hge := of_decide_eq_false hge
    have hk' : k = ys.length := by omega
    rw [hk', List.take_length] at hh hkl2
    refine (h256sum_spec hh (by omega)).mono ?_
    rintro e w34 ⟨rfl, hf34⟩
    refine ⟨_, rfl, (base64_spec _ (by rw [bs_mksize]; exact Nat.le_trans (Nat.le_of_eq (sha_len _ _)) (by decide)) w34).mono ?_⟩
    rintro e w37 ⟨rfl, hf37⟩
    refine ⟨_, rfl, ?_, ys, ?_, hp8, hs8, hi8, (hf.trans' hf34).trans' hf37⟩
    · show 3 + _ ≤ _
      rw [bs_mksize, b64_len, bs_mk, sha_len]; decide
    · rw [bs_mk]; rfl
end Go.Proofs.YtfoeooddnmppnaaGreatDoor

/- Formulas of 1 Go functions of this seat (written by a program of the author's, vcgen.py), and that each is enough for the call. No condition. -/
set_option linter.unusedVariables false
namespace Go.Proofs.YtfoeooddnmppnaaGreatDoor
open Go Vc Go.Proofs
set_option maxRecDepth 100000
/-- cartularylaw01.Few -/
def vc_cartularylaw01_Few (x0 : ByteArray) (x1 : Int) (w : World) (R : Value → World → Prop) : Prop :=
  (((decide ((↑(ByteArray.size x0) : Int) > x1) = true →
     ((0 ≤ x1 ∧
       x1 ≤ (↑(ByteArray.size x0) : Int)) ∧
      R (Value.string (ByteArray.extract x0 0 (Int.toNat x1))) w))) ∧
   (decide ((↑(ByteArray.size x0) : Int) > x1) = false →
     R (Value.string x0) w))
theorem vc_cartularylaw01_Few_ok {x0 : ByteArray} {x1 : Int} {w : World} {R : Value → World → Prop} {R' : Ending → World → Prop} (h : vc_cartularylaw01_Few x0 x1 w R) (hR : ∀ v w', R v w' → R' (.returned v) w') :
    Calls Tryz.prog 35 #[.string x0, .int .i64 x1] w R' :=
  calls_of_body (vs := [(.string x0, false), (.int .i64 x1, false)]) (ty := ty) (ann := ⟨[], [], [], []⟩) (c := Tryz.f35.body.getD .skip) (by kernel_rfl) Tryz.func35 (by kernel_rfl) (by kernel_rfl) (Eq.mp (by kernel_rfl) h) hR
end Go.Proofs.YtfoeooddnmppnaaGreatDoor

/- The law's Few of a text. No condition. -/
set_option linter.unusedVariables false
namespace Go.Proofs.YtfoeooddnmppnaaGreatDoor
open Go Vc Go.Proofs

theorem fewS_spec (s : ByteArray) (n : Nat) (w : World) : Calls Tryz.prog F_cartularylaw01_Few #[.string s, .int .i64 n] w fun e w' => e = .returned (.string (if s.size > n then s.extract 0 n else s)) ∧ w' = w := by
  refine vc_cartularylaw01_Few_ok (R := fun v w' => v = .string (if s.size > n then s.extract 0 n else s) ∧ w' = w) ?_ (fun v w' h => ⟨by rw [h.1], h.2⟩)
  refine ⟨fun h => ?_, fun h => ?_⟩
  · have h := of_decide_eq_true h
    rw [if_pos (by omega)]
    exact ⟨⟨by omega, by omega⟩, by simp, rfl⟩
  · have h := of_decide_eq_false h
    rw [if_neg (by omega)]
    exact ⟨rfl, rfl⟩
theorem fewS_len (s : ByteArray) (n : Nat) : (if s.size > n then s.extract 0 n else s).size ≤ n := by
  split
  · simp; omega
  · omega
end Go.Proofs.YtfoeooddnmppnaaGreatDoor

/- A text's first bytes. No condition. -/
set_option linter.unusedVariables false
namespace Go.Proofs.YtfoeooddnmppnaaGreatDoor
open Go Vc Go.Proofs

def fewB (s : ByteArray) (n : Nat) : ByteArray := if s.size > n then s.extract 0 n else s
theorem fewB_size (s : ByteArray) (n : Nat) : (fewB s n).size ≤ n ∧ (fewB s n).size ≤ s.size := by
  unfold fewB
  split
  · rw [ByteArray.size_extract]; omega
  · omega
end Go.Proofs.YtfoeooddnmppnaaGreatDoor
