/- Objects: Check, Encode, Id, and Decode of what was encoded. Conditions: at most 300 bytes. -/
import Derived.Test.YtoagdpjickippaaDoorObjS
import Derived.Test.YtoagdpjickippaaDoorStrA
set_option linter.unusedVariables false
namespace Go.Proofs.YtoagdpjickippaaDoor
open Go Vc HexM ShaM Go.Proofs

theorem boxO_run (w : World) (k : Int) (d : ByteArray) : (storeVar T_api_Object ⟨w.heap.size, 0, none⟩ (.agg #[.int .i64 k, .string d])).run Tryd.prog (w.alloc (.cells #[.int .i64 0, .string ⟨#[]⟩] T_api_Object)) = .ok () (w.alloc (.cells #[.int .i64 k, .string d] T_api_Object)) :=
  run_storeVar_new w T_api_Object _ _ (by kernel_rfl) rfl (by simp [Value.oneCell'])
theorem boxO_store {w : World} {g : Nat} {cs : Array Value} (h : w.heap[g]? = some (.cells cs T_api_Object (0, 0))) (hc : cs.size = 2) (k : Int) (d : ByteArray) :
    ∃ w', (storeVar T_api_Object ⟨g, 0, none⟩ (.agg #[.int .i64 k, .string d])).run Tryd.prog w = .ok () w' ∧ w'.heap[g]? = some (.cells #[.int .i64 k, .string d] T_api_Object (0, 0)) ∧ Fr (· = g) w w' :=
  ⟨_, run_storeVar_row (P := Tryd.prog) w g T_api_Object T_api_Object _ #[.int .i64 k, .string d] h (by kernel_rfl) (by rw [hc]; rfl) (by simp [Value.oneCell']), setRow_heap w g _ #[.int .i64 k, .string d] T_api_Object (0, 0) h, setRow_fr (· = g) w g _ rfl⟩
theorem boxO_load {w : World} {g : Nat} {k : Int} {d : ByteArray} (h : w.heap[g]? = some (.cells #[.int .i64 k, .string d] T_api_Object (0, 0))) : (loadVar T_api_Object ⟨g, 0, none⟩).run Tryd.prog w = .ok (.agg #[.int .i64 k, .string d]) w :=
  load_agg (vs := [.int .i64 k, .string d]) (agg_of (by kernel_rfl)) (by kernel_rfl) fun k v hv => by rw [add_lit, Nat.zero_add, cell_blk h]; simpa using hv
theorem ocheck_spec (k : Int) (d : ByteArray) (hd : d.size ≤ 65000) (w : World) : Calls Tryd.prog F_object_Check #[.agg #[.int .i64 k, .string d]] w fun e w' => e = .returned (.int .i64 (if kname k = ⟨#[]⟩ then 10 else 0)) ∧ Fr (fun _ => False) w w' := by
  refine vc_object_Check_ok (R := fun v w' => v = .int .i64 (if kname k = ⟨#[]⟩ then 10 else 0) ∧ Fr (fun _ => False) w w') ?_ (fun v w' h => ⟨by rw [h.1], h.2⟩)
  intro w1 h1
  have hf1 : Fr (fun _ => False) w w1 := by rw [h1]; exact .alloc _ _ _
  have hb : w1.heap[w.heap.size]? = some (.cells #[.int .i64 k, .string d] T_api_Object (0, 0)) := by rw [h1]; exact alloc_new _ _
  clear h1
  refine ⟨k, by rw [cell_blk hb]; rfl, (oname_spec k w1).mono ?_⟩
  rintro e w4 ⟨rfl, hw⟩
  replace hw := hw.symm
  subst hw
  refine ⟨_, rfl, fun h => ?_, fun h => ⟨d, by rw [cell_blk hb]; rfl, fun h2 => by have := of_decide_eq_true h2; omega, fun _ => ?_⟩⟩
  · rw [bs_eq] at h
    rw [if_pos (of_decide_eq_true h)]
    exact ⟨rfl, hf1⟩
  · rw [bs_eq] at h
    rw [if_neg (of_decide_eq_false h)]
    exact ⟨rfl, hf1⟩
def encS (k : Int) (d : ByteArray) : ByteArray := kname k ++ ⟨#[32]⟩ ++ ⟨(dec3 d.size).toArray⟩ ++ ⟨#[0]⟩ ++ d
theorem encS_size {k : Int} (hk : isKind k) {d : ByteArray} (hd : d.size ≤ 300) : (encS k d).size ≤ 311 := by
  have h1 := (kname_ok hk).2.1
  have h2 := (dec_facts d.size (by omega)).2.1
  have h3 : (⟨(dec3 d.size).toArray⟩ : ByteArray).size ≤ 3 := by rw [bs_mksize]; exact h2
  unfold encS
  simp only [ByteArray.size_append]
  have h4 : (⟨#[32]⟩ : ByteArray).size = 1 := rfl
  have h5 : (⟨#[0]⟩ : ByteArray).size = 1 := rfl
  omega
theorem oencode_spec (k : Int) (d : ByteArray) (hd : d.size ≤ 300) {w : World} (ht : Tab10 w) : Calls Tryd.prog F_object_Encode #[.agg #[.int .i64 k, .string d]] w fun e w' => ((isKind k ∧ e = .returned (.tuple #[.string (encS k d), .int .i64 0])) ∨ (¬ isKind k ∧ e = .returned (.tuple #[.string ⟨#[]⟩, .int .i64 10]))) ∧ Fr (fun _ => False) w w' := by
  refine vc_object_Encode_ok (R := fun v w' => ((isKind k ∧ v = .tuple #[.string (encS k d), .int .i64 0]) ∨ (¬ isKind k ∧ v = .tuple #[.string ⟨#[]⟩, .int .i64 10])) ∧ Fr (fun _ => False) w w') ?_ (fun v w' h => ⟨h.1.imp (fun h => ⟨h.1, by rw [h.2]⟩) (fun h => ⟨h.1, by rw [h.2]⟩), h.2⟩)
  intro w1 h1
  have hf1 : Fr (fun _ => False) w w1 := by rw [h1]; exact .alloc _ _ _
  have hb : w1.heap[w.heap.size]? = some (.cells #[.int .i64 k, .string d] T_api_Object (0, 0)) := by rw [h1]; exact alloc_new _ _
  clear h1
  refine ⟨k, d, boxO_load hb, (ocheck_spec k d (by omega) w1).mono ?_⟩
  rintro e w5 ⟨rfl, hf5⟩
  have hf5' := hf1.trans' hf5
  refine ⟨_, rfl, fun h => ?_, fun h w7 d7 => ?_⟩
  · by_cases hk : isKind k
    · rw [if_neg (kname_ok hk).1] at h; cases h
    · rw [if_pos (kname_no hk)]
      exact ⟨.inr ⟨hk, rfl⟩, hf5'⟩
  · have hk : isKind k := by
      by_cases hk : isKind k
      · exact hk
      · rw [if_pos (kname_no hk)] at h; cases h
    have hf7 := hf5'.trans' (.drew _ d7)
    have hb7 := (hf5.trans' (.drew _ d7)).keep hb (by simp)
    refine ⟨fun w' => Fr (fun _ => False) w7 w', .refl _ _, k, fun w10 h10 => by rw [cell_blk (h10.keep hb7 (by simp))]; rfl, d, fun w12 h12 => by rw [cell_blk (h12.keep hb7 (by simp))]; rfl, d, fun w14 h14 => by rw [cell_blk (h14.keep hb7 (by simp))]; rfl, (oname_spec k w7).mono ?_⟩
    rintro e w16 ⟨rfl, hw⟩
    replace hw := hw.symm
    subst hw
    obtain ⟨k1, k2, _, _⟩ := kname_ok hk
    have h32 : (ByteArray.mk (Array.mk [(32 : UInt8)])).size = 1 := rfl
    have h0 : (ByteArray.mk (Array.mk [(0 : UInt8)])).size = 1 := rfl
    refine ⟨_, rfl, .refl _ _, by omega, (itoa_spec d.size (by omega) (ht.keep hf7)).mono ?_⟩
    rintro e w19 ⟨rfl, hf19⟩
    rw [itoa_dec (by omega)]
    have h3 : (⟨(dec3 d.size).toArray⟩ : ByteArray).size ≤ 3 := by rw [bs_mksize]; exact (dec_facts d.size (by omega)).2.1
    exact ⟨_, rfl, hf19, by simp only [ByteArray.size_append]; omega, by simp only [ByteArray.size_append]; omega, by simp only [ByteArray.size_append]; omega, .inl ⟨hk, rfl⟩, hf7.trans' hf19⟩
def idS (k : Int) (d : ByteArray) : ByteArray := ⟨(hexL (digest block1 start1 (encS k d).data.toList)).toArray⟩
theorem oid_spec (k : Int) (d : ByteArray) (hd : d.size ≤ 300) {w : World} (ht : Tab10 w) : Calls Tryd.prog F_object_Id #[.agg #[.int .i64 k, .string d]] w fun e w' => ((isKind k ∧ e = .returned (.tuple #[.string (idS k d), .int .i64 0])) ∨ (¬ isKind k ∧ e = .returned (.tuple #[.string ⟨#[]⟩, .int .i64 10]))) ∧ Fr (fun _ => False) w w' := by
  refine vc_object_Id_ok (R := fun v w' => ((isKind k ∧ v = .tuple #[.string (idS k d), .int .i64 0]) ∨ (¬ isKind k ∧ v = .tuple #[.string ⟨#[]⟩, .int .i64 10])) ∧ Fr (fun _ => False) w w') ?_ (fun v w' h => ⟨h.1.imp (fun h => ⟨h.1, by rw [h.2]⟩) (fun h => ⟨h.1, by rw [h.2]⟩), h.2⟩)
  intro w1 h1
  have hf1 : Fr (fun _ => False) w w1 := by rw [h1]; exact .alloc _ _ _
  have hb : w1.heap[w.heap.size]? = some (.cells #[.int .i64 k, .string d] T_api_Object (0, 0)) := by rw [h1]; exact alloc_new _ _
  clear h1
  refine ⟨k, d, boxO_load hb, (oencode_spec k d hd (ht.keep hf1)).mono ?_⟩
  rintro e w5 ⟨⟨hk, rfl⟩ | ⟨hk, rfl⟩, hf5⟩
  · refine ⟨_, _, rfl, fun h => (by cases h), fun _ => ?_⟩
    have hes := encS_size hk hd
    refine (sum1_spec (encS k d) (by omega) w5).mono ?_
    rintro e w9 ⟨rfl, hf9⟩
    have hdl : (digest block1 start1 (encS k d).data.toList).length = 20 := dig1_len _
    refine ⟨_, rfl, (hex_spec _ (by rw [bs_mksize, hdl]; decide) w9).mono ?_⟩
    rintro e w12 ⟨rfl, hf12⟩
    rw [bs_mk]
    exact ⟨_, rfl, .inl ⟨hk, rfl⟩, (hf1.trans' hf5).trans' (hf9.trans' hf12)⟩
  · exact ⟨_, _, rfl, fun _ => ⟨.inr ⟨hk, rfl⟩, hf1.trans' hf5⟩, fun h => by cases h⟩
theorem cut_at {A B : List UInt8} {c : UInt8} (h : c ∉ A) : cutS ⟨(A ++ c :: B).toArray⟩ c = (⟨A.toArray⟩, ⟨B.toArray⟩, true) := by
  have hs : (⟨(A ++ c :: B).toArray⟩ : ByteArray).size = A.length + (B.length + 1) := by rw [bs_mksize, List.length_append, List.length_cons]
  have hget : ∀ k : Nat, (⟨(A ++ c :: B).toArray⟩ : ByteArray).data.toList[k]? = (A ++ c :: B)[k]? := fun k => by rw [bs_mk]
  have hix : Lib.indexByte (⟨(A ++ c :: B).toArray⟩ : ByteArray).data.toList c = ((A.length : Nat) : Int) := by
    refine fnd_at (by omega) ?_ fun k hk e => ?_
    · unfold byt
      rw [hget, List.getElem?_append_right (Nat.le_refl _), Nat.sub_self]; rfl
    · unfold byt at e
      rw [hget, List.getElem?_append_left hk, List.getElem?_eq_getElem hk] at e
      exact h (UInt8.toNat_inj.1 e ▸ List.getElem_mem hk)
  unfold cutS
  rw [hix, if_neg (by omega), Int.toNat_natCast]
  refine Prod.ext (bs_ext ?_) (Prod.ext (bs_ext ?_) rfl)
  · rw [bs_head, bs_mk, bs_mk, List.take_left]
  · rw [bs_tail, bs_mk, bs_mk, List.drop_append, List.drop_eq_nil_of_le (by omega), show A.length + 1 - A.length = 1 by omega]; rfl
theorem odecode_spec (k : Int) (hk : isKind k) (d : ByteArray) (hd : d.size ≤ 300) {w : World} (ht : Tab10 w) : Calls Tryd.prog F_object_Decode #[.string (encS k d)] w fun e w' => e = .returned (.tuple #[.agg #[.int .i64 k, .string d], .int .i64 0]) ∧ Fr (fun _ => False) w w' := by
  refine vc_object_Decode_ok (R := fun v w' => v = .tuple #[.agg #[.int .i64 k, .string d], .int .i64 0] ∧ Fr (fun _ => False) w w') ?_ (fun v w' h => ⟨by rw [h.1], h.2⟩)
  intro w1 h1
  have hf1 : Fr (fun _ => False) w w1 := by rw [h1]; exact .alloc _ _ _
  have hb : w1.heap[w.heap.size]? = some (.cells #[.int .i64 0, .string ⟨#[]⟩] T_api_Object (0, 0)) := by rw [h1]; exact alloc_new _ _
  clear h1
  obtain ⟨k1, k2, k3, k4⟩ := kname_ok hk
  obtain ⟨f1, f2, f3, f4⟩ := dec_facts d.size (by omega)
  have hes := encS_size hk hd
  have hE : encS k d = ⟨(((kname k).data.toList ++ 32 :: dec3 d.size) ++ 0 :: d.data.toList).toArray⟩ := bs_ext (by unfold encS; rw [bs_mk, bs_app, bs_app, bs_app, bs_app, bs_mk]; simp)
  have c1 : cutS (encS k d) (UInt8.ofNat 0) = (⟨((kname k).data.toList ++ 32 :: dec3 d.size).toArray⟩, d, true) := by
    rw [hE, show UInt8.ofNat 0 = 0 from rfl, cut_at (by
      intro h
      rcases List.mem_append.1 h with h | h
      · exact k3 h
      · rcases List.mem_cons.1 h with h | h
        · cases h
        · exact f3 h), bs_self]
  have c2 : cutS ⟨((kname k).data.toList ++ 32 :: dec3 d.size).toArray⟩ (UInt8.ofNat 32) = (kname k, ⟨(dec3 d.size).toArray⟩, true) := by
    rw [show UInt8.ofNat 32 = 32 from rfl, cut_at k4, bs_self]
  have hH : (⟨((kname k).data.toList ++ 32 :: dec3 d.size).toArray⟩ : ByteArray).size ≤ 400 := by rw [bs_mksize, List.length_append, List.length_cons, bs_len]; omega
  have q1 := cut_spec (encS k d) (by omega) 0 (by decide) w1
  rw [c1] at q1
  dsimp only at q1
  refine q1.mono ?_
  rintro e w3 ⟨rfl, d3⟩
  have q2 := cut_spec ⟨((kname k).data.toList ++ 32 :: dec3 d.size).toArray⟩ (by omega) 32 (by decide) w3
  rw [c2] at q2
  dsimp only at q2
  refine ⟨_, _, _, rfl, q2.mono ?_⟩
  rintro e w8 ⟨rfl, d8⟩
  have hf8 : Fr (fun _ => False) w1 w8 := .drew _ (d3.trans d8)
  refine ⟨_, _, _, rfl, (onumber_spec d.size (by omega) (ht.keep (hf1.trans' hf8))).mono ?_⟩
  rintro e w13 ⟨rfl, hf13⟩
  have hf13' := hf8.trans' hf13
  refine ⟨_, _, rfl, fun h => (by cases h), fun _ => ⟨fun h => (by cases h), fun _ => ⟨fun h => (by cases h), fun _ => (okind_spec hk w13).mono ?_⟩⟩⟩
  rintro e w26 ⟨rfl, hw⟩
  replace hw := hw.symm
  subst hw
  refine ⟨_, rfl, fun h => ?_, fun _ => ⟨fun h => (by have := of_decide_eq_true h; omega), fun _ => ⟨fun h => (by have := of_decide_eq_true h; omega), fun _ => ⟨fun h => (by have := of_decide_eq_true h; omega), fun _ => (okind_spec hk w13).mono ?_⟩⟩⟩⟩
  · have := eq_of_beq h
    unfold isKind at hk; omega
  rintro e w41 ⟨rfl, hw⟩
  replace hw := hw.symm
  subst hw
  obtain ⟨w43, hr43, hb43, hf43⟩ := boxO_store (hf13'.keep hb (by simp)) rfl k d
  exact ⟨_, rfl, w43, hr43, _, _, boxO_load hb43, rfl, (hf1.trans' hf13').trans hf43 fun q hq e => by omega⟩
end Go.Proofs.YtoagdpjickippaaDoor
