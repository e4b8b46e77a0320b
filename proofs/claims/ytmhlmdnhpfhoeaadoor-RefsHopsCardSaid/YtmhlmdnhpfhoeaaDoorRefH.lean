/- The law of hops. Conditions: as named. -/
import Derived.Test.YtmhlmdnhpfhoeaaDoorRefR
set_option linter.unusedVariables false
namespace Go.Proofs.YtmhlmdnhpfhoeaaDoor
open Go Vc HexM Go.Proofs

def sHB : ByteArray := ⟨#[114, 101, 102, 115, 47, 104, 101, 97, 100, 115, 47, 98]⟩
def nameK : Nat → ByteArray
  | 0 => sHEAD
  | i + 1 => sHB ++ ⟨#[UInt8.ofNat (97 + i)]⟩
def hopX (i : Nat) : FileE := ⟨nameK i, sRefSp ++ nameK (i + 1) ++ ⟨#[10]⟩⟩
def hopsL (n : Nat) : List FileE := (List.range n).map hopX
def lastS (round : Bool) : ByteArray := if round = true then ⟨#[114, 101, 102, 58, 32, 72, 69, 65, 68, 10]⟩ else rId ++ ⟨#[10]⟩
def hopsF (n : Nat) (round : Bool) : List FileE := hopsL n ++ [⟨nameK n, lastS round⟩]
theorem nk_clean : ∀ i : Fin 31, cleanB (nameK i) = true := by decide +kernel
theorem nk_lt : ∀ i : Fin 30, (nameK i).data.toList < (nameK (i + 1)).data.toList := by decide +kernel
theorem nk_mono {i j : Nat} (h : i < j) (hj : j ≤ 30) : (nameK i).data.toList < (nameK j).data.toList := by
  induction j with
  | zero => omega
  | succ j ih =>
    have h1 : (nameK j).data.toList < (nameK (j + 1)).data.toList := nk_lt ⟨j, by omega⟩
    by_cases hij : i = j
    · rw [hij]; exact h1
    · exact List.lt_trans (ih (by omega) (by omega)) h1
theorem look_small : ∀ n : Fin 6, ∀ r : Bool, lookE (hopsF n r) [] sHEAD = if r = true then (⟨#[]⟩, 9) else (rId, 0) := by decide +kernel
theorem file6 : ∀ i : Fin 6, fileE (hopsL 6) (nameK i) = (⟨#[]⟩, nameK (i + 1), 0) := by decide +kernel
theorem paths_of (n : Nat) (r : Bool) : (hopsF n r).map (·.path) = (List.range (n + 1)).map nameK := by
  unfold hopsF hopsL
  rw [List.map_append, List.map_map, List.range_succ, List.map_append]
  rfl
theorem path_in {n : Nat} {r : Bool} {x : FileE} (hx : x ∈ hopsF n r) : ∃ i, i ≤ n ∧ x.path = nameK i := by
  have : x.path ∈ (hopsF n r).map (·.path) := List.mem_map.2 ⟨x, hx, rfl⟩
  rw [paths_of] at this
  obtain ⟨i, hi, he⟩ := List.mem_map.1 this
  exact ⟨i, by have := List.mem_range.1 hi; omega, he.symm⟩
theorem hops_strict {n : Nat} (hn : n ≤ 30) (r : Bool) : (hopsF n r).Pairwise fun x y => x.path.data.toList < y.path.data.toList := by
  have h : ((hopsF n r).map (·.path)).Pairwise fun x y => x.data.toList < y.data.toList := by
    rw [paths_of, List.pairwise_map, List.pairwise_iff_getElem]
    intro i j hi hj hij
    rw [List.getElem_range, List.getElem_range]
    rw [List.length_range] at hj
    exact nk_mono hij (by omega)
  rwa [List.pairwise_map] at h
theorem nameK_size (i : Nat) : (nameK i).size = if i = 0 then 4 else 13 := by
  cases i with
  | zero => rfl
  | succ i => unfold nameK; rw [ByteArray.size_append]; rfl
theorem nk_under (i j : Nat) : begB (nameK j) (nameK i ++ ⟨#[47]⟩) = false := by
  have h1 : (⟨#[47]⟩ : ByteArray).size = 1 := rfl
  have hi := nameK_size i
  have hj := nameK_size j
  cases i with
  | succ i => exact begB_short (by rw [ByteArray.size_append, hi, h1, if_neg (by omega), hj]; split <;> omega)
  | zero =>
    cases j with
    | zero => decide
    | succ j =>
      refine decide_eq_false fun h => ?_
      have hd : (nameK (j + 1)).data.toList = 114 :: ([101, 102, 115, 47, 104, 101, 97, 100, 115, 47, 98] ++ [UInt8.ofNat (97 + j)]) := by
        unfold nameK; rw [bs_app]; rfl
      have hh : (nameK 0 ++ ⟨#[47]⟩ : ByteArray).data.toList = 72 :: [69, 65, 68, 47] := rfl
      rw [hd, hh, List.cons_prefix_cons] at h
      exact absurd h.1 (by decide)
theorem hops_ok {n : Nat} (hn : n ≤ 30) (r : Bool) : (hopsF n r).all (fun x => cleanB x.path && (underE (hopsF n r) (x.path ++ ⟨#[47]⟩)).isEmpty) = true := by
  rw [List.all_eq_true]
  intro x hx
  obtain ⟨i, hi, he⟩ := path_in hx
  have h1 : cleanB (nameK i) = true := nk_clean ⟨i, by omega⟩
  rw [he, h1, Bool.true_and, List.isEmpty_iff]
  unfold underE
  rw [List.map_eq_nil_iff, List.filter_eq_nil_iff]
  intro y hy
  obtain ⟨j, _, hj⟩ := path_in hy
  rw [hj, nk_under]
  decide
theorem hops_open (n : Nat) (r : Bool) : openE (hopsF n r) = .ok [] := by
  have hg : getE (hopsF n r) sPacked = (⟨#[]⟩, 7) := by
    unfold getE
    rw [List.find?_eq_none.2]
    intro x hx
    obtain ⟨i, _, he⟩ := path_in hx
    have hz := nameK_size i
    rw [he]
    intro h
    have h := of_decide_eq_true h
    have : (nameK i).size = 11 := by rw [h]; rfl
    rw [hz] at this
    split at this <;> omega
  unfold openE
  rw [hg, if_pos (by decide)]
theorem getE_front {a b : List FileE} {p : ByteArray} (h : ∃ x ∈ a, x.path = p) : getE (a ++ b) p = getE a p := by
  unfold getE
  rw [List.find?_append]
  obtain ⟨x, hx, he⟩ := h
  cases hf : a.find? (fun x => decide (x.path = p)) with
  | none => exact absurd (decide_eq_true he) (by simpa using List.find?_eq_none.1 hf x hx)
  | some y => rfl
theorem look_far (b : List FileE) : lookE (hopsL 6 ++ b) [] sHEAD = (⟨#[]⟩, 9) := by
  have hfile : ∀ i : Nat, i < 6 → fileE (hopsL 6 ++ b) (nameK i) = (⟨#[]⟩, nameK (i + 1), 0) := fun i hi => by
    have hg : getE (hopsL 6 ++ b) (nameK i) = getE (hopsL 6) (nameK i) := getE_front ⟨hopX i, List.mem_map.2 ⟨i, List.mem_range.2 hi, rfl⟩, rfl⟩
    have := file6 ⟨i, hi⟩
    simp only at this
    rw [← this]
    unfold fileE
    rw [hg]
  have key : ∀ f : Nat, f ≤ 5 → lookF (hopsL 6 ++ b) [] f (nameK (5 - f)) = (⟨#[]⟩, 9) := by
    intro f
    induction f with
    | zero =>
      intro _
      rw [lookF_eq, hfile 5 (by omega), if_neg (by simp), if_neg (by simp)]
    | succ f ih =>
      intro hf
      rw [lookF_eq, hfile (5 - (f + 1)) (by omega), if_neg (by simp), if_neg (by simp)]
      have := ih (by omega)
      rw [show 5 - f = 5 - (f + 1) + 1 by omega] at this
      exact this
  have h5 := key 5 (Nat.le_refl _)
  unfold lookE
  have hn : nameB sHEAD = true := by unfold nameB; rw [decide_eq_true rfl]; rfl
  rw [hn, if_neg (by decide)]
  exact h5
theorem hops_look {n : Nat} (r : Bool) : lookE (hopsF n r) [] sHEAD = if r = true ∨ 5 < n then (⟨#[]⟩, 9) else (rId, 0) := by
  by_cases hn : 5 < n
  · rw [if_pos (.inr hn)]
    have : ∃ b, hopsF n r = hopsL 6 ++ b := by
      unfold hopsF hopsL
      obtain ⟨m, rfl⟩ : ∃ m, n = 6 + m := ⟨n - 6, by omega⟩
      rw [List.range_add, List.map_append, List.append_assoc]
      exact ⟨_, rfl⟩
    obtain ⟨b, hb⟩ := this
    rw [hb, look_far]
  · have := look_small ⟨n, by omega⟩ r
    simp only at this
    rw [this]
    cases r with
    | true => rw [if_pos rfl, if_pos (.inl rfl)]
    | false => rw [if_neg (by decide), if_neg (fun h => h.elim (fun h => by cases h) hn)]
theorem hops_data {n : Nat} {r : Bool} {x : FileE} (hx : x ∈ hopsF n r) : x.data.size ≤ 50 := by
  unfold hopsF hopsL at hx
  rcases List.mem_append.1 hx with hx | hx
  · obtain ⟨i, _, rfl⟩ := List.mem_map.1 hx
    have h1 := nameK_size (i + 1)
    rw [if_neg (by omega)] at h1
    show (sRefSp ++ nameK (i + 1) ++ ⟨#[10]⟩ : ByteArray).size ≤ 50
    rw [ByteArray.size_append, ByteArray.size_append, h1]
    decide
  · simp only [List.mem_cons, List.mem_nil_iff, or_false] at hx
    rw [hx]
    show (lastS r).size ≤ 50
    cases r <;> decide
theorem total_le : ∀ xs : List FileE, (∀ x ∈ xs, x.data.size ≤ 50) → totalF xs ≤ 50 * xs.length
  | [], _ => Nat.le_refl _
  | x :: r, h => by
    have h1 := h x (by simp)
    have h2 := total_le r fun y hy => h y (by simp [hy])
    unfold totalF at *
    rw [List.map_cons, List.sum_cons, List.length_cons]
    omega
theorem ok_of {xs : List FileE} (hst : xs.Pairwise fun x y => x.path.data.toList < y.path.data.toList) (h : xs.all (fun x => cleanB x.path && (underE xs (x.path ++ ⟨#[47]⟩)).isEmpty) = true) : NewOK xs := by
  rw [List.all_eq_true] at h
  refine ⟨fun i x hx => ⟨?_, fun y hi hy e => ?_⟩, fun x hx => ?_⟩
  · have := h x (List.mem_of_getElem? hx)
    rw [Bool.and_eq_true] at this
    exact this.1
  · obtain ⟨h1, h2⟩ := List.getElem?_eq_some_iff.1 hx
    obtain ⟨h3, h4⟩ := List.getElem?_eq_some_iff.1 hy
    have := (List.pairwise_iff_getElem.1 hst) (i - 1) i h3 h1 (by omega)
    rw [h2, h4, e] at this
    exact List.lt_irrefl _ this
  · have := h x hx
    rw [Bool.and_eq_true] at this
    exact List.isEmpty_iff.1 this.2
theorem hops_walk (n : Int) (round : Bool) {W : World} (hml : MaxL W) : Calls Tryd.prog F_cartularylaw16_RefsHops #[.int .i64 n, .bool round] W fun e w' => e = .returned (.bool true) ∧ RowKit.Below W.heap.size W w' := by
  refine vc_cartularylaw16_RefsHops_ok (R := fun v w' => v = .bool true ∧ Fr (fun _ => False) W w') ?_ (fun v w' h => ⟨by rw [h.1], (h.2.mono fun _ _ h => h.elim : Fr (fun k => W.heap.size ≤ k) W w').below (Nat.le_refl _)⟩)
  have aw : ∀ {wx : World}, Fr (fun _ => False) W wx → Calls Tryd.prog F_cartularylaw16_awake #[] wx fun e w' => e = .returned (.bool true) ∧ Fr (fun _ => False) W w' := fun h => (awake16_spec (hml.keep h)).mono fun e w' h' => ⟨h'.1, h.trans' h'.2⟩
  refine ⟨fun _ => (aw (.refl _ _)).mono fun e w' ⟨h1, h2⟩ => ⟨true, h1, rfl, h2⟩, fun h0 => ⟨fun _ => (aw (.refl _ _)).mono fun e w' ⟨h1, h2⟩ => ⟨true, h1, rfl, h2⟩, fun h30 w7 h7 => ?_⟩⟩
  have h0 := of_decide_eq_false h0
  have h30 := of_decide_eq_false h30
  obtain ⟨N, rfl⟩ := Int.eq_ofNat_of_zero_le (show 0 ≤ n by omega)
  have hN : N ≤ 30 := by omega
  have hf7 : Fr (fun _ => False) W w7 := by rw [h7]; exact .alloc _ _ _
  have ho7 : OwnK encF 2 w7 W.heap.size T_api_File ⟨some ⟨W.heap.size, 0, none⟩, 0, 0⟩ (hopsL 0) := by rw [h7]; exact OwnK.empty W _
  refine ⟨fun l s z w' => ∃ k : Nat, z = k ∧ k ≤ N ∧ s = nameK k ∧ OwnK encF 2 w' W.heap.size T_api_File l (hopsL k) ∧ Fr (fun _ => False) W w', fun _ _ z _ => N - z.toNat, ⟨0, rfl, Nat.zero_le _, rfl, ho7, hf7⟩, ?_⟩
  rintro l s z w13 ⟨k, rfl, hk, rfl, ho, hf13⟩
  have hsz13 := hf13.size
  have hlen : (hopsL k).length = k := by unfold hopsL; rw [List.length_map, List.length_range]
  have hx : ∀ q, q < W.heap.size → ¬ At l q := fun q hq ⟨y, hy, e⟩ => by have := (ho.blk hy).1; omega
  refine ⟨fun hlt w14 h14 => ?_, fun hge => ?_⟩
  · have hlt := of_decide_eq_true hlt
    have e1 : IntKind.i64.wrap ((k : Int) + 1) = ((k + 1 : Nat) : Int) := by rw [wrap_i64 (by omega) (by omega)]; omega
    have e2 : IntKind.u8.wrap (IntKind.i64.wrap (97 + (k : Int))) = ((97 + k : Nat) : Int) := by
      rw [wrap_i64 (by omega) (by omega), wrap_u8 (by omega) (by omega)]; omega
    rw [e2] at h14
    have hf14 : Fr (fun _ => False) w13 w14 := by rw [h14]; exact .alloc _ _ _
    have hrd : Reads w14 (some ⟨w13.heap.size, 0, none⟩) (byteV [UInt8.ofNat (97 + k)]) := fun i v hv => by
      refine ⟨_, rfl, ?_⟩
      rw [h14, add_lit, cell_blk (alloc_new _ _), Nat.zero_add]
      have : byteV [UInt8.ofNat (97 + k)] = [.int .u8 ((97 + k : Nat) : Int)] := by
        simp only [byteV, List.map_cons, List.map_nil]
        rw [toNat_of _ (by omega)]
      rw [this] at hv
      simpa using hv
    rw [e1]
    have hcv := bytes_str (P := Tryd.prog) (t := T_S_uint8) (e := T_uint8) (d := T_string) (by kernel_rfl) (by kernel_rfl) (by kernel_rfl) 1 hrd rfl
    have q1 : ([UInt8.ofNat (97 + k)].toArray : Array UInt8).size = 1 := rfl
    have qs : (ByteArray.mk [UInt8.ofNat (97 + k)].toArray).size = 1 := rfl
    have s1 : (sHB ++ ⟨[UInt8.ofNat (97 + k)].toArray⟩).size = 13 := by rw [ByteArray.size_append, qs]; rfl
    have s2 : (sRefSp ++ (sHB ++ ⟨[UInt8.ofNat (97 + k)].toArray⟩)).size = 18 := by rw [ByteArray.size_append, s1]; rfl
    refine ⟨w14, _, hcv, ?_, ?_, ?_, fun w17 h17 => ?_⟩
    · rw [qs]; decide
    · have : 5 + (sHB ++ ⟨[UInt8.ofNat (97 + k)].toArray⟩).size ≤ 9223372036854775807 := by rw [s1]; decide
      exact this
    · have : (sRefSp ++ (sHB ++ ⟨[UInt8.ofNat (97 + k)].toArray⟩)).size + 1 ≤ 9223372036854775807 := by rw [s2]; decide
      exact this
    have h17' : w17 = w14.alloc (.cells (encF (hopX k)).toArray T_api_File) := h17
    obtain ⟨w18, l', hrun, ho', hf', _⟩ := append_oneK elF (ho.keep hf14 (by simp)) (x := hopX k) (by rw [hlen]; unfold maxLen; omega) (by rw [hlen]; omega) (by have := hf14.size; omega) h17'
    have hl2 : hopsL (k + 1) = hopsL k ++ [hopX k] := by unfold hopsL; rw [List.range_succ, List.map_append]; rfl
    refine ⟨w18, l', hrun, ⟨k + 1, rfl, by omega, rfl, by rw [hl2]; exact ho', (hf13.trans' hf14).trans hf' fun q hq hh => hx q hq hh⟩, by dsimp only; omega⟩
  have hge := of_decide_eq_false hge
  have hkN : k = N := by omega
  subst hkN
  have hst := hops_strict hN round
  have hok := ok_of hst (hops_ok hN round)
  have c4 := hops_look (n := k) round
  have hfl : (hopsF k round).length = k + 1 := by unfold hopsF; rw [List.length_append, hlen]; rfl
  have c5 := total_le (hopsF k round) fun x hx => hops_data hx
  have hopen := hops_open k round
  refine ⟨by decide, fun s w' => w' = w13 ∧ s = lastS round, ⟨fun h => ⟨rfl, by unfold lastS; rw [if_pos h]⟩, fun h => ⟨rfl, by unfold lastS; rw [if_neg (by rw [h]; decide)]; rfl⟩⟩, ?_⟩
  rintro s w22 ⟨hw, rfl⟩ w23 h23
  subst hw
  have h23' : w23 = w22.alloc (.cells (encF ⟨nameK k, lastS round⟩).toArray T_api_File) := h23
  obtain ⟨w24, l', hrun, ho', hf', _⟩ := append_oneK elF ho (x := (⟨nameK k, lastS round⟩ : FileE)) (by rw [hlen]; unfold maxLen; omega) (by rw [hlen]; omega) hsz13 h23'
  have hf24 : Fr (fun _ => False) W w24 := hf13.trans hf' fun q hq hh => hx q hq hh
  change OwnK encF 2 w24 W.heap.size T_api_File l' (hopsF k round) at ho'
  have hdz : ∀ x ∈ hopsF k round, x.data.size ≤ 140737488355328 := fun x hx => Nat.le_trans (hops_data hx) (by decide)
  have hpz : ∀ x ∈ hopsF k round, x.path.size ≤ 140737488355328 := fun x hx => by
    obtain ⟨i, _, hi⟩ := path_in hx
    rw [hi, nameK_size]
    split <;> decide
  refine ⟨w24, l', hrun, (new_spec (ho'.reads (fun _ => rfl)) ho'.1 (by have := ho'.1; omega) (by omega) hpz nilSort).mono ?_⟩
  rintro e w27 ⟨v, rfl, hf27, hR⟩
  rcases hR with ⟨_, h⟩ | ⟨_, _, ys, hp, hris, h⟩
  · exfalso; omega
  have hy := perm_eq hp.symm hst hris
  subst hy
  rcases h with ⟨hn, _⟩ | ⟨_, b, l2, rfl, hb, hS⟩
  · exact absurd hok hn
  have hF27 := hf24.trans' hf27
  refine ⟨_, _, rfl, fun h => absurd h (by decide), fun _ => ⟨fun h => (by cases h), fun _ => (open_spec (hml.keep hF27) hS hris hdz).mono ?_⟩⟩
  rw [hopen]
  rintro e w31 ⟨hf31, rb, mb, rfl, _, _, hI⟩
  have hF31 := hF27.trans' hf31
  refine ⟨_, _, rfl, fun h => absurd h (by decide), fun _ => ⟨fun h => (by cases h), fun _ => (lookup_spec (hml.keep hF31) hI (hS.keep hf31) hris hdz sHEAD (by decide)).mono ?_⟩⟩
  rw [c4]
  rintro e w35 ⟨rfl, hf35⟩
  have hF35 := hF31.trans' hf35
  refine ⟨_, _, rfl, fun hr => (aw hF35).mono fun e w' ⟨h1, h2⟩ => ⟨true, h1, fun _ => ?_, fun h => by cases h⟩, fun hr => ⟨fun h5 => (aw hF35).mono fun e w' ⟨h1, h2⟩ => ⟨true, h1, fun _ => ?_, fun h => by cases h⟩, fun h5 => (aw hF35).mono fun e w' ⟨h1, h2⟩ => ⟨true, h1, fun _ => ?_, fun h => by cases h⟩⟩⟩
  · rw [if_pos (.inl hr)]
    exact ⟨fun _ => ⟨by rw [bs_eq]; rfl, h2⟩, fun h => absurd h (by decide)⟩
  · rw [if_pos (.inr (by have := of_decide_eq_true h5; omega))]
    exact ⟨fun _ => ⟨by rw [bs_eq]; rfl, h2⟩, fun h => absurd h (by decide)⟩
  · rw [if_neg (fun h => by
      rcases h with h | h
      · rw [h] at hr; cases hr
      · have := of_decide_eq_false h5; omega)]
    exact ⟨fun _ => ⟨by rw [bs_eq]; exact congrArg Value.bool (decide_eq_true rfl), h2⟩, fun h => absurd h (by decide)⟩
end Go.Proofs.YtmhlmdnhpfhoeaaDoor
