/- The law of a folder just up to its limit, walked. Condition: the table that folds ASCII letters lies as its initialiser lays it. -/
import Derived.Test.YtmihbbgojkbaeaaDoorTreeW
set_option linter.unusedVariables false
namespace Go.Proofs.YtmihbbgojkbaeaaDoor
open Go Vc HexM TreeM Go.Proofs

def fullE (i : Nat) : Ent := ⟨33188, ⟨[UInt8.ofNat (97 + i / 26), UInt8.ofNat (97 + i % 26)].toArray⟩, awakeId⟩
def fullL (n : Nat) : List Ent := (List.range n).map fullE
theorem fullL_succ (n : Nat) : fullL (n + 1) = fullL n ++ [fullE n] := by unfold fullL; rw [List.range_succ, List.map_append]; rfl
theorem fullL_len (n : Nat) : (fullL n).length = n := by unfold fullL; simp
theorem full_at {n k : Nat} (h : k < n) : (fullL n)[k]? = some (fullE k) := by unfold fullL; rw [List.getElem?_map, List.getElem?_range h]; rfl
theorem full_okB : ((List.range 600).all fun i => nameOK isGit (fullE i).name) = true := by decide +kernel
theorem full_ltB : ((List.range 600).all fun i => klt (fullE i) (fullE (i + 1))) = true := by decide +kernel
theorem full_ok {i : Nat} (h : i < 600) : entOK isGit (fullE i) = true := by
  have h1 := List.all_eq_true.1 full_okB i (List.mem_range.2 h)
  have := plain_ok (fullE i).name
  rw [h1] at this
  exact this
theorem full_lt : ∀ (d i : Nat), i + d + 1 < 600 → klt (fullE i) (fullE (i + d + 1)) = true
  | 0, i, h => List.all_eq_true.1 full_ltB i (List.mem_range.2 (by omega))
  | d + 1, i, h => klt_trans (full_lt d i (by omega)) (List.all_eq_true.1 full_ltB (i + d + 1) (List.mem_range.2 (by omega)))
theorem full_mem {n : Nat} (hn : n ≤ 600) : ∀ x ∈ fullL n, entOK isGit x = true := fun x hx => by
  unfold fullL at hx
  obtain ⟨i, hi, rfl⟩ := List.mem_map.1 hx
  have := List.mem_range.1 hi
  exact full_ok (by omega)
theorem full_check {n : Nat} (hn : n ≤ 600) : checkE isGit (fullL n) = if 500 < n then 2 else 0 := by
  by_cases h : 500 < n
  · rw [if_pos h]; unfold checkE; rw [fullL_len, if_pos h]
  · rw [if_neg h]
    refine check_iff.2 ⟨by rw [fullL_len]; omega, good_pair.2 ⟨full_mem hn, ?_⟩⟩
    rw [List.pairwise_iff_getElem]
    intro i j hi hj hij
    rw [fullL_len] at hi hj
    have e : ∀ (k : Nat) (hk : k < (fullL n).length), (fullL n)[k] = fullE k := fun k hk => Option.some.inj ((List.getElem?_eq_getElem hk).symm.trans (full_at (by rw [fullL_len] at hk; exact hk)))
    rw [e, e]
    have hlt := full_lt (j - i - 1) i (by omega)
    rw [show i + (j - i - 1) + 1 = j by omega] at hlt
    refine ⟨fun he => ?_, hlt⟩
    have : fullE i = fullE j := by
      have h1 : fullE i = ⟨33188, (fullE i).name, awakeId⟩ := rfl
      have h2 : fullE j = ⟨33188, (fullE j).name, awakeId⟩ := rfl
      rw [h1, h2, he]
    rw [this, klt_irrefl] at hlt; cases hlt
theorem full_sizes {n : Nat} (hn : n ≤ 600) : ∀ x ∈ fullL n, x.name.size ≤ 140737488355328 ∧ x.id.size ≤ 140737488355328 := fun x hx => by
  unfold fullL at hx
  obtain ⟨i, hi, rfl⟩ := List.mem_map.1 hx
  have h1 : (fullE i).name.size = 2 := rfl
  have h2 : (fullE i).id.size = 40 := rfl
  omega
/-- 'TreeFull'. -/
theorem treeFull_walk (x0 : Int) (W : World) (ht : Tab W) : Calls Tryd.prog F_cartularylaw14_TreeFull #[.int .i64 x0] W fun e w' => e = .returned (.bool true) ∧ RowKit.Below W.heap.size W w' := by
  refine vc_cartularylaw14_TreeFull_ok (R := fun v w' => v = .bool true ∧ Fr (fun k => W.heap.size ≤ k) W w') ?_ (fun v w' h => ⟨by rw [h.1], h.2.below (Nat.le_refl _)⟩)
  have up : ∀ {w' : World}, Fr (fun _ => False) W w' → Fr (fun k => W.heap.size ≤ k) W w' := fun h => h.mono fun _ _ h => h.elim
  have aw : Calls Tryd.prog F_cartularylaw14_awake #[] W fun e w' => ∃ b : Bool, e = .returned (.bool b) ∧ (Value.bool b = .bool true ∧ Fr (fun k => W.heap.size ≤ k) W w') :=
    (awake14_spec W ht).mono fun e w' h => ⟨true, h.1, rfl, up h.2⟩
  refine ⟨fun _ => aw, fun h1 => ⟨fun _ => aw, fun h2 w7 h7 => ?_⟩⟩
  have h1 := of_decide_eq_false h1
  have h2 := of_decide_eq_false h2
  obtain ⟨m, rfl⟩ : ∃ m : Nat, x0 = m := ⟨x0.toNat, by omega⟩
  have hm : m ≤ 600 := by omega
  refine ⟨fun l s i w' => ∃ k : Nat, i = k ∧ k ≤ m ∧ s = ⟨(bytesE (fullL k)).toArray⟩ ∧ OwnK encE 3 w' W.heap.size T_api_Entry l (fullL k) ∧ Fr (fun _ => False) W w', fun _ _ i _ => m - i.toNat, ⟨0, rfl, Nat.zero_le _, rfl, by rw [h7]; exact OwnK.empty W T_api_Entry, by rw [h7]; exact .alloc _ _ _⟩, ?_⟩
  clear h7
  rintro l s i w13 ⟨k, rfl, hk, hs, ho, hf⟩
  have hbl : ∀ {n : Nat}, n ≤ 600 → (bytesE (fullL n)).length ≤ 76800 := fun {n} hn => by
    have := bytesE_len (fullL n) (full_mem hn)
    rw [fullL_len] at this; omega
  refine ⟨fun hlt => ⟨by decide, by decide, fun w14 h14 => ?_⟩, fun hge => ?_⟩
  · have hlt := of_decide_eq_true hlt
    have hkm : k < m := by omega
    have e1 : IntKind.i64.wrap ((k : Int) + 1) = ((k + 1 : Nat) : Int) := by rw [wrap_i64 (by omega) (by omega)]; omega
    have e2 : IntKind.u8.wrap (IntKind.i64.wrap (97 + IntKind.i64.wrap (Int.tdiv (k : Int) 26))) = ((97 + k / 26 : Nat) : Int) := by
      rw [show (26 : Int) = ((26 : Nat) : Int) from rfl, ← Int.ofNat_tdiv, wrap_i64 (x := ((k / 26 : Nat) : Int)) (by omega) (by omega), wrap_i64 (by omega) (by omega), wrap_u8 (by omega) (by omega)]; omega
    have e3 : IntKind.u8.wrap (IntKind.i64.wrap (97 + Int.tmod (k : Int) 26)) = ((97 + k % 26 : Nat) : Int) := by
      rw [show (26 : Int) = ((26 : Nat) : Int) from rfl, ← Int.ofNat_tmod, wrap_i64 (by omega) (by omega), wrap_u8 (by omega) (by omega)]; omega
    rw [e2, e3] at h14
    rw [e1]
    have hb14 : w14.heap[w13.heap.size]? = some (.cells #[.int .u8 ((97 + k / 26 : Nat) : Int), .int .u8 ((97 + k % 26 : Nat) : Int)] T_uint8 (0, 0)) := by rw [h14]; exact alloc_new _ _
    have hf14 : Fr (fun _ => False) w13 w14 := by rw [h14]; exact .alloc _ _ _
    clear h14
    have hr14 : Reads w14 (some ⟨w13.heap.size, 0, none⟩) (byteV [UInt8.ofNat (97 + k / 26), UInt8.ofNat (97 + k % 26)]) := fun j v hv => by
      refine ⟨_, rfl, ?_⟩
      rw [add_lit, Nat.zero_add, cell_blk hb14]
      have t1 := toNat_of (97 + k / 26) (by omega)
      have t2 := toNat_of (97 + k % 26) (by omega)
      simp only [byteV, List.map_cons, List.map_nil, t1, t2] at hv
      simpa using hv
    refine ⟨w14, (fullE k).name, bytes_str (e := T_uint8) (by kernel_rfl) (by kernel_rfl) (by kernel_rfl) 2 hr14 rfl, fun w17 h17 => ?_⟩
    have hx : ∃ x, x = fullE k := ⟨_, rfl⟩
    refine ⟨w14.alloc (.cells (encE (fullE k)).toArray T_api_Entry), by rw [h17]; exact boxE_run w14 (fullE k), (fullE k).mode, (fullE k).name, (fullE k).id, boxE_load w14 (fullE k) (.refl (fun _ => False) _) (by simp), fun w22 h22 => ?_⟩
    clear h17
    have hfa := Fr.alloc (fun _ => False) w14 (.cells (encE (fullE k)).toArray T_api_Entry)
    have hfa' := hf14.trans' hfa
    have ho18 := ho.keep hfa' (by simp)
    have hsz := (hf.trans' hfa').size
    have hlk := fullL_len k
    obtain ⟨w23, l24, hr23, ho23, hf23, _⟩ := append_oneK elE ho18 (x := fullE k) (by unfold maxLen; omega) (by omega) hsz h22
    clear h22
    have hbx : ¬ At l w14.heap.size := fun ⟨y, hy, e⟩ => by
      have h1 := (ho.blk hy).2
      have h2 := hf14.size
      omega
    have hf23' : Fr (fun _ => False) W w23 := (hf.trans' hfa').trans hf23 fun q hq ⟨y, hy, e⟩ => by
      have h1 := (ho.blk hy).1
      omega
    refine ⟨w23, l24, hr23, (fullE k).mode, (fullE k).name, (fullE k).id, boxE_load w14 (fullE k) hf23 hbx, fun w28 h28 => ?_⟩
    have hok := full_ok (i := k) (by omega)
    have hEx : Ents w28 (some ⟨w23.heap.size, 0, none⟩) 1 [fullE k] := one_ents h28 (by have : (fullE k).name.size = 2 := rfl; omega) (by have : (fullE k).id.size = 40 := rfl; omega)
    have hf28 : Fr (fun _ => False) w23 w28 := by rw [h28]; exact .alloc _ _ _
    clear h28
    refine (rtext_spec hEx (fun x hx => by simp only [List.mem_cons, List.mem_nil_iff, or_false] at hx; rw [hx]; exact hok) (by omega)).mono ?_
    rintro e w30 ⟨rfl, hf30⟩
    have hb1 := entB_len hok
    have hb2 := hbl (n := k) (by omega)
    have hone : bytesE [fullE k] = entB (fullE k) := by unfold bytesE; simp
    rw [hone]
    refine ⟨_, rfl, ?_, ⟨k + 1, rfl, by omega, ?_, ?_, (hf23'.trans' hf28).trans' hf30⟩, by dsimp only; omega⟩
    · rw [hs, bs_mksize, bs_mksize]; omega
    · rw [hs, fullL_succ]
      refine bs_ext ?_
      unfold bytesE
      rw [List.flatMap_append, bs_mk]
      simp
    · rw [fullL_succ]
      exact (ho23.keep hf28 (by simp)).keep hf30 (by simp)
  · have hge := of_decide_eq_false hge
    have hk' : k = m := by omega
    subst hk'
    have hszs := full_sizes hm
    have hE : Ents w13 l.a l.len (fullL k) := own_ents (m := 0) ho (fun x hx => (hszs x hx).1) (fun x hx => (hszs x hx).2)
    refine (format_spec hE (ht.keep hf (by simp))).mono ?_
    rintro e w33 ⟨rfl, hf33⟩
    have hb2 := hbl (n := k) hm
    have hsd : s.data.toList = bytesE (fullL k) := by rw [hs, bs_mk]
    have hsz : s.size ≤ 1000000 := by rw [← bs_len, hsd]; omega
    have hlen := len_bytes (fullL k) (full_mem hm)
    have hpa := parse_all (fullL k) [] (s.size + 1) s hsd (full_mem hm) (Nat.zero_le _) (by rw [← bs_len, hsd]; omega)
    rw [List.nil_append, full_check hm, List.length_nil, Nat.zero_add, fullL_len] at hpa
    rw [full_check hm, ← hs]
    refine ⟨_, _, rfl, (parse_spec s hsz w33 (ht.keep (hf.trans' hf33) (by simp))).mono ?_⟩
    rintro e w37 ⟨l38, rfl, ho38, hf37⟩
    have hf37' := (hf.trans' hf33).trans' hf37
    rw [hpa] at ho38 ⊢
    refine ⟨l38, _, rfl, fun hbig => (awake14_spec w37 (ht.keep hf37' (by simp))).mono ?_, fun hbig => (awake14_spec w37 (ht.keep hf37' (by simp))).mono ?_⟩
    · have hbig := of_decide_eq_true hbig
      have hbig : 500 < k := by omega
      rintro e w41 ⟨rfl, hf41⟩
      have hd : ∀ {α : Type} (a b : α), (if 500 < k then a else b) = a := fun a b => if_pos hbig
      repeat rw [hd] at ho38
      repeat rw [hd]
      have hl38 := ho38.len
      refine ⟨_, rfl, fun _ => ⟨fun _ => ⟨fun _ => ⟨fun _ => ⟨?_, up (hf37'.trans' hf41)⟩, fun h => ?_⟩, fun h => ?_⟩, fun h => ?_⟩, fun h => (by cases h)⟩
      · rw [hl38]; rfl
      · rw [if_neg (by decide), bs_eq] at h; simp at h
      · simp at h
      · simp at h
    · have hbig := of_decide_eq_false hbig
      have hbig : ¬ 500 < k := by omega
      rintro e w44 ⟨rfl, hf44⟩
      have hd : ∀ {α : Type} (a b : α), (if 500 < k then a else b) = b := fun a b => if_neg hbig
      have hz : ∀ {α : Type} (a b : α), (if (0 : Int) = 0 then a else b) = a := fun a b => if_pos rfl
      repeat rw [hd] at ho38
      repeat rw [hz] at ho38
      repeat rw [hd]
      repeat rw [hz]
      refine ⟨_, rfl, fun _ => ⟨fun _ => ⟨fun _ => ⟨fun _ => ?_, fun h => ?_⟩, fun h => ?_⟩, fun h => ?_⟩, fun h => (by cases h)⟩
      · have hE38 : Ents w44 l38.a l38.len (fullL k) := own_ents (m := 0) (ho38.keep hf44 (by simp)) hE.name hE.id
        refine (same_spec hE38 (hE.keep ((hf33.trans' hf37).trans' hf44) (by simp)) (by have h1 := hE38.len; rw [fullL_len] at h1; omega)).mono ?_
        rintro e w47 ⟨⟨b, rfl, hb⟩, d47⟩
        have hbt : b = true := hb.2 rfl
        subst hbt
        exact ⟨_, rfl, rfl, up ((hf37'.trans' hf44).trans' (.drew _ d47))⟩
      · rw [bs_eq] at h; simp at h
      · simp at h
      · simp at h
end Go.Proofs.YtmihbbgojkbaeaaDoor
