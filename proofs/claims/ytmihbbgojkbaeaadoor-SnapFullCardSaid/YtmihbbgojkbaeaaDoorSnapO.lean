/- The law of the limits walked. Conditions: none. -/
import Derived.Test.YtmihbbgojkbaeaaDoorSnapN
set_option linter.unusedVariables false
namespace Go.Proofs.YtmihbbgojkbaeaaDoor
open Go Vc Go.Proofs

theorem make_bytes {w : World} {base n : Nat} (hn : n ≤ 10000) (hbase : base ≤ w.heap.size) :
    ∃ w', (Instr.makeSlice T_S_uint8 (.int .i64 (n : Int)) (.int .i64 (n : Int))).run Tryd.prog w = .ok (.slice (some ⟨w.heap.size, 0, none⟩) n n) w' ∧ Vc.Own w' base T_uint8 ⟨some ⟨w.heap.size, 0, none⟩, n, n⟩ (byteV (List.replicate n 0)) ∧ Fr (fun _ => False) w w' := by
  obtain ⟨i, hi, hi2⟩ := Option.map_eq_some_iff.1 elByteH.info
  simp only [Prod.mk.injEq] at hi2
  obtain ⟨hz, hs1, hby⟩ := hi2
  obtain ⟨w', hr, ho, hg⟩ := run_makeSlice_full (P := Tryd.prog) w base T_S_uint8 T_uint8 i (.int .u8 0) 1 elByteH.sl hi hz hs1 .i64 .i64 n (by omega) (by rw [hby]; omega) (by unfold maxLen; omega) hbase
  refine ⟨w', hr, ?_, (Fr.grown hg).mono fun k _ hk => by cases hk⟩
  have := (Own.ofRow ho).1
  rwa [show (madeCells (Value.int .u8 0).cells (n * 1)).toList = byteV (List.replicate n 0) from ?_] at this
  unfold madeCells
  simp [byteV, Value.cells, Nat.mod_one]
  exact List.eq_replicate_iff.2 ⟨by simp, fun b hb => by obtain ⟨x, _, rfl⟩ := List.mem_map.1 hb; rfl⟩
def nameN (i : Nat) : List UInt8 := [102, UInt8.ofNat (97 + i / 676), UInt8.ofNat (97 + i / 26 % 26), UInt8.ofNat (97 + i % 26)]
def fileN (sz i : Nat) : FileE := ⟨⟨(nameN i).toArray⟩, ⟨(List.replicate sz 0).toArray⟩⟩
def fullF (sz k : Nat) : List FileE := (List.range k).map (fileN sz)
theorem fullF_snoc (sz k : Nat) : fullF sz (k + 1) = fullF sz k ++ [fileN sz k] := by
  unfold fullF; rw [List.range_succ, List.map_append]; rfl
theorem fullF_len (sz k : Nat) : (fullF sz k).length = k := by unfold fullF; simp
theorem fullF_total (sz : Nat) : ∀ k, totalF (fullF sz k) = k * sz
  | 0 => by simp [fullF, totalF]
  | k + 1 => by
    have := fullF_total sz k
    unfold totalF at this ⊢
    rw [fullF_snoc, List.map_append, List.sum_append, this, Nat.succ_mul]
    show k * sz + ((fileN sz k).data.size + 0) = _
    rw [show (fileN sz k).data.size = sz from (bs_mksize _).trans (List.length_replicate ..)]; rfl
theorem of_lt {a b : Nat} (h : a < b) (hb : b < 256) : UInt8.ofNat a < UInt8.ofNat b := by
  rw [UInt8.lt_iff_toNat_lt, toNat_of _ (by omega), toNat_of _ hb]; exact h
theorem name_lt {i j : Nat} (h : i < j) (hj : j ≤ 2100) : nameN i < nameN j := by
  unfold nameN
  have h1 : i / 676 ≤ j / 676 := Nat.div_le_div_right (by omega)
  rw [List.cons_lt_cons_iff]
  refine .inr ⟨rfl, ?_⟩
  rw [List.cons_lt_cons_iff]
  by_cases e1 : i / 676 = j / 676
  · refine .inr ⟨by rw [e1], ?_⟩
    rw [List.cons_lt_cons_iff]
    by_cases e2 : i / 26 % 26 = j / 26 % 26
    · refine .inr ⟨by rw [e2], ?_⟩
      rw [List.cons_lt_cons_iff]
      exact .inl (of_lt (by omega) (by omega))
    · exact .inl (of_lt (by omega) (by omega))
  · exact .inl (of_lt (by omega) (by omega))
theorem fullF_strict (sz k : Nat) (hk : k ≤ 2100) : (fullF sz k).Pairwise fun x y => x.path.data.toList < y.path.data.toList := by
  unfold fullF
  rw [List.pairwise_map]
  refine (List.pairwise_lt_range (n := k)).imp_of_mem fun {i j} hi hj h => ?_
  exact name_lt h (by have := List.mem_range.1 hj; omega)
theorem fullF_mem {sz k : Nat} {x : FileE} (h : x ∈ fullF sz k) : ∃ i, i < k ∧ x = fileN sz i := by
  obtain ⟨i, hi, rfl⟩ := List.mem_map.1 h
  exact ⟨i, List.mem_range.1 hi, rfl⟩
theorem fileN_clean (sz i : Nat) (hi : i ≤ 2100) : cleanB (fileN sz i).path = true := by
  have hs : (fileN sz i).path.size = 4 := bs_mksize _
  have hl : (fileN sz i).path.data.toList = nameN i := bs_mk _
  have hno : (47 : UInt8) ∉ nameN i := by
    unfold nameN
    simp only [List.mem_cons, List.mem_nil_iff, or_false]
    have key : ∀ n, 97 ≤ n → n < 256 → (47 : UInt8) ≠ UInt8.ofNat n := fun n h1 h2 e => by
      have := congrArg UInt8.toNat e
      rw [toNat_of _ h2] at this
      have h47 : (47 : UInt8).toNat = 47 := rfl
      omega
    rintro (h | h | h | h)
    · revert h; decide
    · exact key _ (by omega) (by omega) h
    · exact key _ (by omega) (by omega) h
    · exact key _ (by omega) (by omega) h
  unfold cleanB
  rw [Bool.and_eq_true, Bool.and_eq_true]
  refine ⟨⟨decide_eq_true (by omega), ?_⟩, decide_eq_true fun k hk => ?_⟩
  · rw [partsF_L _ _ (Nat.le_refl _), hl, partsL_plain _ hno, List.all_eq_true]
    intro x hx
    have hx : x = ⟨(nameN i).toArray⟩ := by simpa [bsm] using hx
    have hxs : x.size = 4 := by rw [hx]; exact bs_mksize _
    unfold partOK
    rw [Bool.and_eq_true, Bool.and_eq_true]
    refine ⟨⟨decide_eq_true fun e => ?_, decide_eq_true fun e => ?_⟩, decide_eq_true fun e => ?_⟩ <;>
    · rw [e] at hxs
      revert hxs; decide
  · unfold byt
    rw [hl]
    unfold nameN
    have hk : k < 4 := by omega
    match k, hk with
    | 0, _ => exact (by decide : 32 ≤ (102 : UInt8).toNat ∧ (102 : UInt8).toNat ≤ 126)
    | 1, _ => simp only [List.getElem?_cons_succ, List.getElem?_cons_zero, Option.getD_some]; rw [toNat_of _ (by omega)]; omega
    | 2, _ => simp only [List.getElem?_cons_succ, List.getElem?_cons_zero, Option.getD_some]; rw [toNat_of _ (by omega)]; omega
    | 3, _ => simp only [List.getElem?_cons_succ, List.getElem?_cons_zero, Option.getD_some]; rw [toNat_of _ (by omega)]; omega
theorem fullF_ok (sz k : Nat) (hk : k ≤ 2100) : CheckOK (fullF sz k) := by
  refine ⟨fun x hx => ?_, ?_⟩
  · obtain ⟨i, hi, rfl⟩ := fullF_mem hx
    exact fileN_clean sz i (by omega)
  · refine (fullF_strict sz k hk).imp_of_mem fun {x y} hx hy h => ?_
    obtain ⟨i, hi, rfl⟩ := fullF_mem hx
    obtain ⟨j, hj, rfl⟩ := fullF_mem hy
    have hs : ∀ i, (fileN sz i).path.size = 4 := fun i => bs_mksize _
    have hb : ∀ i j, begB (fileN sz j).path ((fileN sz i).path ++ ⟨#[47]⟩) = false := fun i j => begB_short (by
      rw [ByteArray.size_append, hs, hs, show (ByteArray.mk #[47]).size = 1 from rfl]; omega)
    refine ⟨⟨fun e => ?_, hb i j⟩, fun e => ?_, hb j i⟩
    · rw [e] at h; exact List.lt_irrefl _ h
    · rw [e] at h; exact List.lt_irrefl _ h
theorem fullF_under (sz k : Nat) : (underE (fullF sz k) ⟨#[102]⟩).length = k := by
  unfold underE
  rw [List.length_map, List.filter_eq_self.2, fullF_len]
  intro x hx
  obtain ⟨i, hi, rfl⟩ := fullF_mem hx
  refine decide_eq_true ?_
  rw [show (fileN sz i).path.data.toList = nameN i from bs_mk _]
  exact ⟨_, rfl⟩
theorem strict_rising {ys : List FileE} (h : ys.Pairwise fun x y => x.path.data.toList < y.path.data.toList) : Rising ys := h.imp fun h => List.lt_asymm h
/-- 'SnapFull'. -/
theorem snapFull_walk (n sz : Int) (W : World) : Calls Tryd.prog F_cartularylaw07_SnapFull #[.int .i64 n, .int .i64 sz] W fun e w' => e = .returned (.bool true) ∧ RowKit.Below W.heap.size W w' := by
  refine vc_cartularylaw07_SnapFull_ok (R := fun v w' => v = .bool true ∧ Fr (fun _ => False) W w') ?_ (fun v w' h => ⟨by rw [h.1], (h.2.mono fun _ _ h => h.elim : Fr (fun k => W.heap.size ≤ k) W w').below (Nat.le_refl _)⟩)
  have aw : ∀ {w21 : World}, Fr (fun _ => False) W w21 → Calls Tryd.prog F_cartularylaw07_awake #[] w21 fun e24 w25 => ∃ b26, e24 = .returned (.bool b26) ∧ (Value.bool b26 = .bool true ∧ Fr (fun _ => False) W w25) := fun hf => (awake07_spec _).mono fun e w' ⟨h1, h2⟩ => ⟨true, h1, rfl, hf.trans' h2⟩
  refine ⟨fun _ => aw (.refl _ _), fun h1 => ⟨fun _ => aw (.refl _ _), fun h2 => ⟨fun _ => aw (.refl _ _), fun h3 => ⟨fun _ => aw (.refl _ _), fun h4 w13 h13 => ?_⟩⟩⟩⟩
  have h1 := of_decide_eq_false h1
  have h2 := of_decide_eq_false h2
  have h3 := of_decide_eq_false h3
  have h4 := of_decide_eq_false h4
  obtain ⟨N, rfl⟩ := Int.eq_ofNat_of_zero_le (show 0 ≤ n by omega)
  obtain ⟨Z, rfl⟩ := Int.eq_ofNat_of_zero_le (show 0 ≤ sz by omega)
  have hf13 : Fr (fun _ => False) W w13 := by rw [h13]; exact .alloc _ _ _
  have ho13 : OwnK encF 2 w13 W.heap.size T_api_File ⟨some ⟨W.heap.size, 0, none⟩, 0, 0⟩ [] := by rw [h13]; exact .empty W T_api_File
  clear h13
  refine ⟨fun l i w' => ∃ k : Nat, i = k ∧ k ≤ N ∧ OwnK encF 2 w' W.heap.size T_api_File l (fullF Z k) ∧ Fr (fun _ => False) W w', fun _ i _ => N - i.toNat, ⟨0, rfl, Nat.zero_le _, ho13, hf13⟩, ?_⟩
  clear ho13 hf13 w13
  rintro l i w18 ⟨k, rfl, hk, ho, hf⟩
  have e1 : IntKind.i64.wrap ((k : Int) + 1) = ((k + 1 : Nat) : Int) := by rw [wrap_i64 (by omega) (by omega)]; omega
  rw [e1]
  refine ⟨fun hlt w19 d19 => ?_, fun hge => ?_⟩
  · have hlt := of_decide_eq_true hlt
    have t1 : Int.tdiv (k : Int) 676 = ((k / 676 : Nat) : Int) := (Int.ofNat_tdiv k 676).symm
    have t2 : Int.tdiv (k : Int) 26 = ((k / 26 : Nat) : Int) := (Int.ofNat_tdiv k 26).symm
    have t3 : Int.tmod (k : Int) 26 = ((k % 26 : Nat) : Int) := (Int.ofNat_tmod k 26).symm
    have ea : IntKind.u8.wrap (IntKind.i64.wrap (97 + IntKind.i64.wrap (Int.tdiv (k : Int) 676))) = ((97 + k / 676 : Nat) : Int) := by
      rw [t1, show IntKind.i64.wrap ((k / 676 : Nat) : Int) = ((k / 676 : Nat) : Int) from wrap_i64 (by omega) (by omega), wrap_i64 (by omega) (by omega), wrap_u8 (by omega) (by omega)]; omega
    have eb : IntKind.u8.wrap (IntKind.i64.wrap (97 + Int.tmod (IntKind.i64.wrap (Int.tdiv (k : Int) 26)) 26)) = ((97 + k / 26 % 26 : Nat) : Int) := by
      rw [t2, show IntKind.i64.wrap ((k / 26 : Nat) : Int) = ((k / 26 : Nat) : Int) from wrap_i64 (by omega) (by omega), show Int.tmod ((k / 26 : Nat) : Int) 26 = ((k / 26 % 26 : Nat) : Int) from (Int.ofNat_tmod (k / 26) 26).symm, wrap_i64 (by omega) (by omega), wrap_u8 (by omega) (by omega)]; omega
    have ec : IntKind.u8.wrap (IntKind.i64.wrap (97 + Int.tmod (k : Int) 26)) = ((97 + k % 26 : Nat) : Int) := by
      rw [t3, wrap_i64 (by omega) (by omega), wrap_u8 (by omega) (by omega)]; omega
    rw [ea, eb, ec]
    clear ea eb ec t1 t2 t3
    have hnv : byteV (nameN k) = [.int .u8 102, .int .u8 ((97 + k / 676 : Nat) : Int), .int .u8 ((97 + k / 26 % 26 : Nat) : Int), .int .u8 ((97 + k % 26 : Nat) : Int)] := by
      unfold byteV nameN
      simp only [List.map_cons, List.map_nil]
      rw [toNat_of _ (show 97 + k / 676 < 256 by omega), toNat_of _ (show 97 + k / 26 % 26 < 256 by omega), toNat_of _ (show 97 + k % 26 < 256 by omega)]
      rfl
    have al : ∀ {wx wy : World}, wx = wy.alloc (.cells #[.int .u8 102, .int .u8 ((97 + k / 676 : Nat) : Int), .int .u8 ((97 + k / 26 % 26 : Nat) : Int), .int .u8 ((97 + k % 26 : Nat) : Int)] T_uint8) → Fr (fun _ => False) wy wx ∧ Reads wx (some ⟨wy.heap.size, 0, none⟩) (byteV (nameN k)) := fun {wx wy} h => by
      subst h
      refine ⟨.alloc _ _ _, fun i v hv => ⟨_, rfl, ?_⟩⟩
      rw [add_lit, cell_blk (alloc_new _ _), Nat.zero_add]
      rw [hnv] at hv
      simpa using hv
    have cvN : ∀ {wx : World} {g : Nat}, Reads wx (some ⟨g, 0, none⟩) (byteV (nameN k)) → (convert T_S_uint8 T_string (.slice (some ⟨g, 0, none⟩) 4 4)).run Tryd.prog wx = .ok (.string (fileN Z k).path) wx := fun h => bytes_str (e := T_uint8) (by kernel_rfl) (by kernel_rfl) (by kernel_rfl) 4 h rfl
    have cvZ : ∀ {wx : World} {g : Nat}, Reads wx (some ⟨g, 0, none⟩) (byteV (List.replicate Z 0)) → (convert T_S_uint8 T_string (.slice (some ⟨g, 0, none⟩) Z Z)).run Tryd.prog wx = .ok (.string (fileN Z k).data) wx := fun h => bytes_str (e := T_uint8) (by kernel_rfl) (by kernel_rfl) (by kernel_rfl) Z h (List.length_replicate ..)
    have mk := fun wx : World => make_bytes (w := wx) (base := wx.heap.size) (n := Z) (by omega) (Nat.le_refl _)
    have fin : ∀ {wB : World}, Fr (fun _ => False) w18 wB → ∀ wC, wC = wB.alloc (.cells #[.string (fileN Z k).path, .string (fileN Z k).data] T_api_File) → True ∧
        ∃ (w29 : World) (l30 : Sl), (Builtin.append_ #[T_S_api_File, T_S_api_File] T_S_api_File #[.slice l.a l.len l.cap, .slice (some ⟨wB.heap.size, 0, none⟩) 1 1]).run Tryd.prog wC = .ok (.slice l30.a l30.len l30.cap) w29 ∧ True ∧
          (∃ k' : Nat, ((k + 1 : Nat) : Int) = k' ∧ k' ≤ N ∧ OwnK encF 2 w29 W.heap.size T_api_File l30 (fullF Z k') ∧ Fr (fun _ => False) W w29) ∧ N - ((k + 1 : Nat) : Int).toNat < N - (k : Int).toNat := fun {wB} hB wC hC => by
      have hfl := fullF_len Z k
      have hfB := hf.trans' hB
      obtain ⟨w29, l30, hr, ho', hf', _⟩ := append_oneK elF (ho.keep hB (by simp)) (x := fileN Z k) (by rw [hfl]; simp only [maxLen]; omega) (by rw [hfl]; omega) hfB.size hC
      refine ⟨trivial, w29, l30, hr, trivial, ⟨k + 1, rfl, by omega, by rw [fullF_snoc]; exact ho', hfB.trans hf' fun q hq ⟨z, hz, e⟩ => ?_⟩, by omega⟩
      have := (ho.blk hz).1; omega
    have f19 : Fr (fun _ => False) w18 w19 := .drew _ d19
    refine ⟨fun _ => True, trivial, by decide, by decide, by decide, by decide, fun w21 h21 => ?_, ?_⟩
    · obtain ⟨f21, r21⟩ := al h21
      have F21 := f19.trans' f21
      refine ⟨trivial, ⟨w21, _, cvN r21, trivial, ?_⟩, ?_⟩
      · obtain ⟨w24, hm, om, fm⟩ := mk w21
        exact ⟨w24, ⟨_, _, _⟩, hm, trivial, w24, _, cvZ om.reads, trivial, fin (F21.trans' fm)⟩
      · obtain ⟨w24, hm, om, fm⟩ := mk w21
        exact ⟨w24, ⟨_, _, _⟩, hm, trivial, ⟨w24, _, cvN (r21.keep fm (by simp)), trivial, w24, _, cvZ om.reads, trivial, fin (F21.trans' fm)⟩, w24, _, cvZ om.reads, trivial, w24, _, cvN (r21.keep fm (by simp)), trivial, fin (F21.trans' fm)⟩
    · obtain ⟨w47, hm, om, fm⟩ := mk w19
      have F47 := f19.trans' fm
      refine ⟨w47, ⟨_, _, _⟩, hm, trivial, fun w49 h49 => ?_, ⟨w47, _, cvZ om.reads, trivial, fun w66 h66 => ?_⟩⟩
      · obtain ⟨f49, r49⟩ := al h49
        exact ⟨trivial, ⟨w49, _, cvN r49, trivial, w49, _, cvZ (om.keep f49 (by simp)).reads, trivial, fin (F47.trans' f49)⟩, w49, _, cvZ (om.keep f49 (by simp)).reads, trivial, w49, _, cvN r49, trivial, fin (F47.trans' f49)⟩
      · obtain ⟨f66, r66⟩ := al h66
        exact ⟨trivial, w66, _, cvN r66, trivial, fin (F47.trans' f66)⟩
  have hge := of_decide_eq_false hge
  have hk' : k = N := by omega
  subst hk'
  have hfl := fullF_len Z k
  have hft := fullF_total Z k
  have hst := fullF_strict Z k (by omega)
  have hok := fullF_ok Z k (by omega)
  have hun := fullF_under Z k
  have hll : (fullF Z k).length = l.len := ho.1
  have hprod : k * Z ≤ 2100 * 5000 := Nat.mul_le_mul (by omega) (by omega)
  have hmul : IntKind.i64.wrap ((k : Int) * (Z : Int)) = ((k * Z : Nat) : Int) := by
    rw [← Int.natCast_mul, wrap_i64 (by omega) (by omega)]
  rw [hmul]
  have hps : ∀ x ∈ fullF Z k, x.path.size ≤ 140737488355328 := fun x hx => by
    obtain ⟨i, _, rfl⟩ := fullF_mem hx
    rw [show (fileN Z i).path.size = 4 from bs_mksize _]; omega
  generalize fullF Z k = zs at ho hfl hft hst hok hun hll hps
  refine (new_spec (ho.reads fun _ => rfl) hll (by omega) (by omega) hps nilSort).mono ?_
  rintro e w73 ⟨v, rfl, hf73, hR⟩
  have hf73' := hf.trans' hf73
  rcases hR with ⟨rfl, hbig⟩ | ⟨hs1, hs2, ys, hp, hris, h⟩
  · refine ⟨_, _, rfl, fun _ => ?_, fun h5 => ⟨fun _ => ?_, fun h6 => ?_⟩⟩
    · refine (awake07_spec w73).mono ?_
      rintro e w77 ⟨rfl, hf77⟩
      exact ⟨_, rfl, fun _ => ⟨fun _ => ⟨rfl, hf73'.trans' hf77⟩, fun h => absurd h (by decide)⟩, fun h => (by cases h)⟩
    · refine (awake07_spec w73).mono ?_
      rintro e w77 ⟨rfl, hf77⟩
      exact ⟨_, rfl, fun _ => ⟨fun _ => ⟨rfl, hf73'.trans' hf77⟩, fun h => absurd h (by decide)⟩, fun h => (by cases h)⟩
    · have h5 := of_decide_eq_false h5
      have h6 := of_decide_eq_false h6
      omega
  · have hye := perm_eq hp.symm hst hris
    subst hye
    rcases h with ⟨hno, _⟩ | ⟨_, b, l2, rfl, hbw, hS⟩
    · exact absurd ((check_new hris).2 hok) hno
    refine ⟨_, _, rfl, fun h5 => ?_, fun _ => ⟨fun h6 => ?_, fun _ => ?_⟩⟩
    · have h5 := of_decide_eq_true h5; omega
    · have h6 := of_decide_eq_true h6; omega
    refine (awake07_spec w73).mono ?_
    rintro e w83 ⟨rfl, hf83⟩
    have hS83 := hS.keep hf83
    refine ⟨_, rfl, fun _ => ⟨fun _ => ⟨fun _ => (len_spec hS83).mono ?_, fun h => (by cases h)⟩, fun h => absurd h (by decide)⟩, fun h => (by cases h)⟩
    rintro e w86 ⟨rfl, hw⟩
    replace hw := hw.symm
    subst hw
    refine ⟨_, rfl, fun _ => (size_spec hS83).mono ?_, fun h => ?_⟩
    · rintro e w89 ⟨rfl, hw⟩
      replace hw := hw.symm
      subst hw
      refine ⟨_, rfl, fun _ => (under_spec hS83 hris ⟨#[102]⟩).mono ?_, fun h => ?_⟩
      · rintro e w92 ⟨l93, rfl, ho93, hf93⟩
        have : l93.len = k := by rw [ho93.len, ← hun]; simp [strV]
        exact ⟨l93, rfl, by rw [this, beq_self_eq_true], (hf73'.trans' hf83).trans' hf93⟩
      · rw [hft] at h; simp at h
    · rw [hfl] at h; simp at h
end Go.Proofs.YtmihbbgojkbaeaaDoor
