/- Texts of this seat in one: made by a program of ours. -/
import Derived.Test.YtllegkmadljmaaaGreatDoorCartularyLabelsQ0
import Derived.Test.YtllegkmadljmaaaGreatDoorCartularyLabelsQ1
import Derived.Test.YtllegkmadljmaaaGreatDoorCartularyLabelsQ2
import Derived.Test.YtllegkmadljmaaaGreatDoorProg
/- Objects: Check, Encode, Id, and Decode of what was encoded. Conditions: at most 65000 bytes. -/
set_option linter.unusedVariables false
namespace Go.Proofs.YtllegkmadljmaaaGreatDoor
open Go Vc HexM ShaM Go.Proofs

theorem boxO_store {w : World} {g : Nat} {cs : Array Value} (h : w.heap[g]? = some (.cells cs T_api_Object (0, 0))) (hc : cs.size = 2) (k : Int) (d : ByteArray) :
    ∃ w', (storeVar T_api_Object ⟨g, 0, none⟩ (.agg #[.int .i64 k, .string d])).run Tryz.prog w = .ok () w' ∧ w'.heap[g]? = some (.cells #[.int .i64 k, .string d] T_api_Object (0, 0)) ∧ Fr (· = g) w w' :=
  ⟨_, run_storeVar_row (P := Tryz.prog) w g T_api_Object T_api_Object _ #[.int .i64 k, .string d] h (by kernel_rfl) (by rw [hc]; rfl) (by simp [Value.oneCell']), setRow_heap w g _ #[.int .i64 k, .string d] T_api_Object (0, 0) h, setRow_fr (· = g) w g _ rfl⟩
theorem boxO_load {w : World} {g : Nat} {k : Int} {d : ByteArray} (h : w.heap[g]? = some (.cells #[.int .i64 k, .string d] T_api_Object (0, 0))) : (loadVar T_api_Object ⟨g, 0, none⟩).run Tryz.prog w = .ok (.agg #[.int .i64 k, .string d]) w :=
  load_agg (vs := [.int .i64 k, .string d]) (agg_of (by kernel_rfl)) (by kernel_rfl) fun k v hv => by rw [add_lit, Nat.zero_add, cell_blk h]; simpa using hv
theorem ocheck_spec (k : Int) (d : ByteArray) (hd : d.size ≤ 65000) (w : World) : Calls Tryz.prog F_object_Check #[.agg #[.int .i64 k, .string d]] w fun e w' => e = .returned (.int .i64 (if kname k = ⟨#[]⟩ then 10 else 0)) ∧ Fr (fun _ => False) w w' := by
  refine vc_object_Check_ok (R := fun v w' => v = .int .i64 (if kname k = ⟨#[]⟩ then 10 else 0) ∧ Fr (fun _ => False) w w') ?_ (fun v w' h => ⟨by rw [h.1], h.2⟩)
  intro w1 h1
  have hf1 : Fr (fun _ => False) w w1 := by rw [h1]; exact .alloc _ _ _
  have hb : w1.heap[w.heap.size]? = some (.cells #[.int .i64 k, .string d] T_api_Object (0, 0)) := by rw [h1]; exact alloc_new _ _
  clear h1
  refine ⟨k, by rw [cell_blk hb]; rfl, (oname_spec k w1).mono ?_⟩
  rintro e w4 ⟨rfl, hw⟩
  replace hw := hw.symm
  subst hw
  refine ⟨_, rfl, fun h => ?_, fun h => ⟨d, by rw [cell_blk hb]; rfl, fun h2 => by have := of_decide_eq_true h2; omega, fun _ => ?_⟩⟩
  · rw [bs_eq] at h
    rw [if_pos (of_decide_eq_true h)]
    exact ⟨rfl, hf1⟩
  · rw [bs_eq] at h
    rw [if_neg (of_decide_eq_false h)]
    exact ⟨rfl, hf1⟩
def encS (k : Int) (d : ByteArray) : ByteArray := kname k ++ ⟨#[32]⟩ ++ ⟨(dec3 d.size).toArray⟩ ++ ⟨#[0]⟩ ++ d
theorem encS_size {k : Int} (hk : isKind k) {d : ByteArray} (hd : d.size ≤ 65000) : (encS k d).size ≤ 65013 := by
  have h1 := (kname_ok hk).2.1
  have h2 := (dec_facts d.size (by omega)).2.1
  have h3 : (⟨(dec3 d.size).toArray⟩ : ByteArray).size ≤ 5 := by rw [bs_mksize]; exact h2
  unfold encS
  simp only [ByteArray.size_append]
  have h4 : (⟨#[32]⟩ : ByteArray).size = 1 := rfl
  have h5 : (⟨#[0]⟩ : ByteArray).size = 1 := rfl
  omega
theorem oencode_spec (k : Int) (d : ByteArray) (hd : d.size ≤ 65000) {w : World} (ht : Tab10 w) : Calls Tryz.prog F_object_Encode #[.agg #[.int .i64 k, .string d]] w fun e w' => ((isKind k ∧ e = .returned (.tuple #[.string (encS k d), .int .i64 0])) ∨ (¬ isKind k ∧ e = .returned (.tuple #[.string ⟨#[]⟩, .int .i64 10]))) ∧ Fr (fun _ => False) w w' := by
  refine vc_object_Encode_ok (R := fun v w' => ((isKind k ∧ v = .tuple #[.string (encS k d), .int .i64 0]) ∨ (¬ isKind k ∧ v = .tuple #[.string ⟨#[]⟩, .int .i64 10])) ∧ Fr (fun _ => False) w w') ?_ (fun v w' h => ⟨h.1.imp (fun h => ⟨h.1, by rw [h.2]⟩) (fun h => ⟨h.1, by rw [h.2]⟩), h.2⟩)
  intro w1 h1
  have hf1 : Fr (fun _ => False) w w1 := by rw [h1]; exact .alloc _ _ _
  have hb : w1.heap[w.heap.size]? = some (.cells #[.int .i64 k, .string d] T_api_Object (0, 0)) := by rw [h1]; exact alloc_new _ _
  clear h1
  refine ⟨k, d, boxO_load hb, (ocheck_spec k d (by omega) w1).mono ?_⟩
  rintro e w5 ⟨rfl, hf5⟩
  have hf5' := hf1.trans' hf5
  refine ⟨_, rfl, fun h => ?_, fun h w7 d7 => ?_⟩
  · by_cases hk : isKind k
    · rw [if_neg (kname_ok hk).1] at h; cases h
    · rw [if_pos (kname_no hk)]
      exact ⟨.inr ⟨hk, rfl⟩, hf5'⟩
  · have hk : isKind k := by
      by_cases hk : isKind k
      · exact hk
      · rw [if_pos (kname_no hk)] at h; cases h
    have hf7 := hf5'.trans' (.drew _ d7)
    have hb7 := (hf5.trans' (.drew _ d7)).keep hb (by simp)
    refine ⟨fun w' => Fr (fun _ => False) w7 w', .refl _ _, k, fun w10 h10 => by rw [cell_blk (h10.keep hb7 (by simp))]; rfl, d, fun w12 h12 => by rw [cell_blk (h12.keep hb7 (by simp))]; rfl, d, fun w14 h14 => by rw [cell_blk (h14.keep hb7 (by simp))]; rfl, (oname_spec k w7).mono ?_⟩
    rintro e w16 ⟨rfl, hw⟩
    replace hw := hw.symm
    subst hw
    obtain ⟨k1, k2, _, _⟩ := kname_ok hk
    have h32 : (ByteArray.mk (Array.mk [(32 : UInt8)])).size = 1 := rfl
    have h0 : (ByteArray.mk (Array.mk [(0 : UInt8)])).size = 1 := rfl
    refine ⟨_, rfl, .refl _ _, by omega, (itoa_spec d.size (by omega) (ht.keep hf7)).mono ?_⟩
    rintro e w19 ⟨rfl, hf19⟩
    rw [itoa_dec]
    have h3 : (⟨(dec3 d.size).toArray⟩ : ByteArray).size ≤ 5 := by rw [bs_mksize]; exact (dec_facts d.size (by omega)).2.1
    exact ⟨_, rfl, hf19, by simp only [ByteArray.size_append]; omega, by simp only [ByteArray.size_append]; omega, by simp only [ByteArray.size_append]; omega, .inl ⟨hk, rfl⟩, hf7.trans' hf19⟩
def idS (k : Int) (d : ByteArray) : ByteArray := ⟨(hexL (digest block1 start1 (encS k d).data.toList)).toArray⟩
theorem oid_spec (k : Int) (d : ByteArray) (hd : d.size ≤ 65000) {w : World} (ht : Tab10 w) : Calls Tryz.prog F_object_Id #[.agg #[.int .i64 k, .string d]] w fun e w' => ((isKind k ∧ e = .returned (.tuple #[.string (idS k d), .int .i64 0])) ∨ (¬ isKind k ∧ e = .returned (.tuple #[.string ⟨#[]⟩, .int .i64 10]))) ∧ Fr (fun _ => False) w w' := by
  refine vc_object_Id_ok (R := fun v w' => ((isKind k ∧ v = .tuple #[.string (idS k d), .int .i64 0]) ∨ (¬ isKind k ∧ v = .tuple #[.string ⟨#[]⟩, .int .i64 10])) ∧ Fr (fun _ => False) w w') ?_ (fun v w' h => ⟨h.1.imp (fun h => ⟨h.1, by rw [h.2]⟩) (fun h => ⟨h.1, by rw [h.2]⟩), h.2⟩)
  intro w1 h1
  have hf1 : Fr (fun _ => False) w w1 := by rw [h1]; exact .alloc _ _ _
  have hb : w1.heap[w.heap.size]? = some (.cells #[.int .i64 k, .string d] T_api_Object (0, 0)) := by rw [h1]; exact alloc_new _ _
  clear h1
  refine ⟨k, d, boxO_load hb, (oencode_spec k d hd (ht.keep hf1)).mono ?_⟩
  rintro e w5 ⟨⟨hk, rfl⟩ | ⟨hk, rfl⟩, hf5⟩
  · refine ⟨_, _, rfl, fun h => (by cases h), fun _ => ?_⟩
    have hes := encS_size hk hd
    refine (sum1_spec (encS k d) (by omega) w5).mono ?_
    rintro e w9 ⟨rfl, hf9⟩
    have hdl : (digest block1 start1 (encS k d).data.toList).length = 20 := dig1_len _
    refine ⟨_, rfl, (hex_spec _ (by rw [bs_mksize, hdl]; decide) w9).mono ?_⟩
    rintro e w12 ⟨rfl, hf12⟩
    rw [bs_mk]
    exact ⟨_, rfl, .inl ⟨hk, rfl⟩, (hf1.trans' hf5).trans' (hf9.trans' hf12)⟩
  · exact ⟨_, _, rfl, fun _ => ⟨.inr ⟨hk, rfl⟩, hf1.trans' hf5⟩, fun h => by cases h⟩
end Go.Proofs.YtllegkmadljmaaaGreatDoor

/- Formulas of 3 Go functions of this seat (written by a program of the author's, vcgen.py), and that each is enough for the call. No condition. -/
set_option linter.unusedVariables false
namespace Go.Proofs.YtllegkmadljmaaaGreatDoor
open Go Vc Go.Proofs
set_option maxRecDepth 100000
def vc_object_Kind (x0 : ByteArray) (w : World) (R : Value → World → Prop) : Prop :=
 ∃ I1 : Int → World → Prop, ∃ I2 : Int → World → Nat, (I1 1 w ∧
 ∀ n3 : Int,
 ∀ w4 : World,
 (I1 n3 w4 →
 (((decide (n3 ≤ 4) = true →
 Calls Tryz.prog (32 : Nat) (Array.mk [Value.int .i64 n3]) (w4) (fun e5 w6 =>
 ∃ s7 : ByteArray, (e5 = Ending.returned (Value.string s7) ∧
 ((((ByteArray.toList s7 == ByteArray.toList x0) = true →
 R (Value.int .i64 n3) w6)) ∧
 ((ByteArray.toList s7 == ByteArray.toList x0) = false →
 (I1 (IntKind.wrap .i64 (n3 + 1)) w6 ∧
 I2 (IntKind.wrap .i64 (n3 + 1)) w6 < I2 n3 w4))))))) ∧
 (decide (n3 ≤ 4) = false →
 R (Value.int .i64 0) w4))))
theorem vc_object_Kind_ok {x0 : ByteArray} {w : World} {R : Value → World → Prop} {R' : Ending → World → Prop} (h : vc_object_Kind x0 w R) (hR : ∀ v w', R v w' → R' (.returned v) w') :
    Calls Tryz.prog 85 #[.string x0] w R' :=
  calls_of_body (vs := [(.string x0, false)]) (ty := ty) (ann := ⟨[], [(2, [(3, .int .i64)])], [], []⟩) (c := Tryz.f85.body.getD .skip) (by kernel_rfl) Tryz.func85 (by kernel_rfl) (by kernel_rfl) (Eq.mp (by kernel_rfl) h) hR
def vc_object_Number (x0 : ByteArray) (w : World) (R : Value → World → Prop) : Prop :=
 Calls Tryz.prog (133 : Nat) (Array.mk [Value.string x0]) (w) (fun e1 w2 =>
 ∃ n3 : Int, ∃ z4 : Unit, (e1 = Ending.returned (Value.tuple (Array.mk [Value.int .i64 n3, Value.nilIface])) ∧
 ((((!true) = true →
 R (Value.tuple (Array.mk [Value.int .i64 0, Value.bool false])) w2)) ∧
 ((!true) = false →
 (((decide (n3 < 0) = true →
 R (Value.tuple (Array.mk [Value.int .i64 0, Value.bool false])) w2)) ∧
 (decide (n3 < 0) = false →
 (((decide ((↑(ByteArray.size x0) : Int) > 9) = true →
 R (Value.tuple (Array.mk [Value.int .i64 0, Value.bool false])) w2)) ∧
 (decide ((↑(ByteArray.size x0) : Int) > 9) = false →
 Calls Tryz.prog (54 : Nat) (Array.mk [Value.int .i64 n3]) (w2) (fun e5 w6 =>
 ∃ s7 : ByteArray, (e5 = Ending.returned (Value.string s7) ∧
 ((((!ByteArray.toList s7 == ByteArray.toList x0) = true →
 R (Value.tuple (Array.mk [Value.int .i64 0, Value.bool false])) w6)) ∧
 ((!ByteArray.toList s7 == ByteArray.toList x0) = false →
 R (Value.tuple (Array.mk [Value.int .i64 n3, Value.bool true])) w6))))))))))))
theorem vc_object_Number_ok {x0 : ByteArray} {w : World} {R : Value → World → Prop} {R' : Ending → World → Prop} (h : vc_object_Number x0 w R) (hR : ∀ v w', R v w' → R' (.returned v) w') :
    Calls Tryz.prog 180 #[.string x0] w R' :=
  calls_of_body (vs := [(.string x0, false)]) (ty := ty) (ann := ⟨[], [], [], []⟩) (c := Tryz.f180.body.getD .skip) (by kernel_rfl) Tryz.func180 (by kernel_rfl) (by kernel_rfl) (Eq.mp (by kernel_rfl) h) hR
def vc_object_Decode (x0 : ByteArray) (w : World) (R : Value → World → Prop) : Prop :=
 ∀ w1 : World,
 (w1 = World.alloc w (Obj.cells (Array.mk [Value.int .i64 0, Value.string (ByteArray.mk (Array.mk []))]) 33) →
 Calls Tryz.prog (46 : Nat) (Array.mk [Value.string x0, Value.string (ByteArray.mk (Array.mk [0]))]) (w1) (fun e2 w3 =>
 ∃ s4 : ByteArray, ∃ s5 : ByteArray, ∃ b6 : Bool, (e2 = Ending.returned (Value.tuple (Array.mk [Value.string s4, Value.string s5, Value.bool b6])) ∧
 Calls Tryz.prog (46 : Nat) (Array.mk [Value.string s4, Value.string (ByteArray.mk (Array.mk [32]))]) (w3) (fun e7 w8 =>
 ∃ s9 : ByteArray, ∃ s10 : ByteArray, ∃ b11 : Bool, (e7 = Ending.returned (Value.tuple (Array.mk [Value.string s9, Value.string s10, Value.bool b11])) ∧
 Calls Tryz.prog (180 : Nat) (Array.mk [Value.string s10]) (w8) (fun e12 w13 =>
 ∃ n14 : Int, ∃ b15 : Bool, (e12 = Ending.returned (Value.tuple (Array.mk [Value.int .i64 n14, Value.bool b15])) ∧
 ((((!b6) = true →
 ∃ w16 : World, (Sem.run Tryz.prog (storeVar 33 (Addr.mk (Array.size (World.heap w)) 0 none) (Value.agg (Array.mk [Value.int .i64 0, Value.string (ByteArray.mk (Array.mk []))]))) w13 = Result.ok PUnit.unit w16 ∧
 ∃ n17 : Int, ∃ s18 : ByteArray, (Sem.run Tryz.prog (loadVar 33 (Addr.mk (Array.size (World.heap w)) 0 none)) w16 = Result.ok (Value.agg (Array.mk [Value.int .i64 n17, Value.string s18])) w16 ∧
 R (Value.tuple (Array.mk [Value.agg (Array.mk [Value.int .i64 n17, Value.string s18]), Value.int .i64 3])) w16)))) ∧
 ((!b6) = false →
 ((((!b11) = true →
 ∃ w19 : World, (Sem.run Tryz.prog (storeVar 33 (Addr.mk (Array.size (World.heap w)) 0 none) (Value.agg (Array.mk [Value.int .i64 0, Value.string (ByteArray.mk (Array.mk []))]))) w13 = Result.ok PUnit.unit w19 ∧
 ∃ n20 : Int, ∃ s21 : ByteArray, (Sem.run Tryz.prog (loadVar 33 (Addr.mk (Array.size (World.heap w)) 0 none)) w19 = Result.ok (Value.agg (Array.mk [Value.int .i64 n20, Value.string s21])) w19 ∧
 R (Value.tuple (Array.mk [Value.agg (Array.mk [Value.int .i64 n20, Value.string s21]), Value.int .i64 3])) w19)))) ∧
 ((!b11) = false →
 ((((!b15) = true →
 ∃ w22 : World, (Sem.run Tryz.prog (storeVar 33 (Addr.mk (Array.size (World.heap w)) 0 none) (Value.agg (Array.mk [Value.int .i64 0, Value.string (ByteArray.mk (Array.mk []))]))) w13 = Result.ok PUnit.unit w22 ∧
 ∃ n23 : Int, ∃ s24 : ByteArray, (Sem.run Tryz.prog (loadVar 33 (Addr.mk (Array.size (World.heap w)) 0 none)) w22 = Result.ok (Value.agg (Array.mk [Value.int .i64 n23, Value.string s24])) w22 ∧
 R (Value.tuple (Array.mk [Value.agg (Array.mk [Value.int .i64 n23, Value.string s24]), Value.int .i64 3])) w22)))) ∧
 ((!b15) = false →
 Calls Tryz.prog (85 : Nat) (Array.mk [Value.string s9]) (w13) (fun e25 w26 =>
 ∃ n27 : Int, (e25 = Ending.returned (Value.int .i64 n27) ∧
 ((((n27 == 0) = true →
 ∃ w28 : World, (Sem.run Tryz.prog (storeVar 33 (Addr.mk (Array.size (World.heap w)) 0 none) (Value.agg (Array.mk [Value.int .i64 0, Value.string (ByteArray.mk (Array.mk []))]))) w26 = Result.ok PUnit.unit w28 ∧
 ∃ n29 : Int, ∃ s30 : ByteArray, (Sem.run Tryz.prog (loadVar 33 (Addr.mk (Array.size (World.heap w)) 0 none)) w28 = Result.ok (Value.agg (Array.mk [Value.int .i64 n29, Value.string s30])) w28 ∧
 R (Value.tuple (Array.mk [Value.agg (Array.mk [Value.int .i64 n29, Value.string s30]), Value.int .i64 10])) w28)))) ∧
 ((n27 == 0) = false →
 (((decide (n14 > 65000) = true →
 ∃ w31 : World, (Sem.run Tryz.prog (storeVar 33 (Addr.mk (Array.size (World.heap w)) 0 none) (Value.agg (Array.mk [Value.int .i64 0, Value.string (ByteArray.mk (Array.mk []))]))) w26 = Result.ok PUnit.unit w31 ∧
 ∃ n32 : Int, ∃ s33 : ByteArray, (Sem.run Tryz.prog (loadVar 33 (Addr.mk (Array.size (World.heap w)) 0 none)) w31 = Result.ok (Value.agg (Array.mk [Value.int .i64 n32, Value.string s33])) w31 ∧
 R (Value.tuple (Array.mk [Value.agg (Array.mk [Value.int .i64 n32, Value.string s33]), Value.int .i64 2])) w31)))) ∧
 (decide (n14 > 65000) = false →
 (((decide ((↑(ByteArray.size s5) : Int) < n14) = true →
 ∃ w34 : World, (Sem.run Tryz.prog (storeVar 33 (Addr.mk (Array.size (World.heap w)) 0 none) (Value.agg (Array.mk [Value.int .i64 0, Value.string (ByteArray.mk (Array.mk []))]))) w26 = Result.ok PUnit.unit w34 ∧
 ∃ n35 : Int, ∃ s36 : ByteArray, (Sem.run Tryz.prog (loadVar 33 (Addr.mk (Array.size (World.heap w)) 0 none)) w34 = Result.ok (Value.agg (Array.mk [Value.int .i64 n35, Value.string s36])) w34 ∧
 R (Value.tuple (Array.mk [Value.agg (Array.mk [Value.int .i64 n35, Value.string s36]), Value.int .i64 6])) w34)))) ∧
 (decide ((↑(ByteArray.size s5) : Int) < n14) = false →
 (((decide ((↑(ByteArray.size s5) : Int) > n14) = true →
 ∃ w37 : World, (Sem.run Tryz.prog (storeVar 33 (Addr.mk (Array.size (World.heap w)) 0 none) (Value.agg (Array.mk [Value.int .i64 0, Value.string (ByteArray.mk (Array.mk []))]))) w26 = Result.ok PUnit.unit w37 ∧
 ∃ n38 : Int, ∃ s39 : ByteArray, (Sem.run Tryz.prog (loadVar 33 (Addr.mk (Array.size (World.heap w)) 0 none)) w37 = Result.ok (Value.agg (Array.mk [Value.int .i64 n38, Value.string s39])) w37 ∧
 R (Value.tuple (Array.mk [Value.agg (Array.mk [Value.int .i64 n38, Value.string s39]), Value.int .i64 3])) w37)))) ∧
 (decide ((↑(ByteArray.size s5) : Int) > n14) = false →
 Calls Tryz.prog (85 : Nat) (Array.mk [Value.string s9]) (w26) (fun e40 w41 =>
 ∃ n42 : Int, (e40 = Ending.returned (Value.int .i64 n42) ∧
 ∃ w43 : World, (Sem.run Tryz.prog (storeVar 33 (Addr.mk (Array.size (World.heap w)) 0 none) (Value.agg (Array.mk [Value.int .i64 n42, Value.string s5]))) w41 = Result.ok PUnit.unit w43 ∧
 ∃ n44 : Int, ∃ s45 : ByteArray, (Sem.run Tryz.prog (loadVar 33 (Addr.mk (Array.size (World.heap w)) 0 none)) w43 = Result.ok (Value.agg (Array.mk [Value.int .i64 n44, Value.string s45])) w43 ∧
 R (Value.tuple (Array.mk [Value.agg (Array.mk [Value.int .i64 n44, Value.string s45]), Value.int .i64 0])) w43)))))))))))))))))))))))))))
theorem vc_object_Decode_ok {x0 : ByteArray} {w : World} {R : Value → World → Prop} {R' : Ending → World → Prop} (h : vc_object_Decode x0 w R) (hR : ∀ v w', R v w' → R' (.returned v) w') :
    Calls Tryz.prog 157 #[.string x0] w R' :=
  calls_of_body (vs := [(.string x0, false)]) (ty := ty) (ann := ⟨[], [], [], []⟩) (c := Tryz.f157.body.getD .skip) (by kernel_rfl) Tryz.func157 (by kernel_rfl) (by kernel_rfl) (Eq.mp (by kernel_rfl) h) hR
end Go.Proofs.YtllegkmadljmaaaGreatDoor

/- Objects: Kind of a kind's name, Number of at most five digits. Conditions: as named. -/
set_option linter.unusedVariables false
namespace Go.Proofs.YtllegkmadljmaaaGreatDoor
open Go Vc HexM ShaM Go.Proofs

theorem okind_spec {k : Int} (h : isKind k) (w : World) : Calls Tryz.prog F_object_Kind #[.string (kname k)] w fun e w' => e = .returned (.int .i64 k) ∧ w' = w := by
  refine vc_object_Kind_ok (R := fun v w' => v = .int .i64 k ∧ w' = w) ?_ (fun v w' h => ⟨by rw [h.1], h.2⟩)
  have hk : 1 ≤ k ∧ k ≤ 4 := by unfold isKind at h; omega
  refine ⟨fun i w' => 1 ≤ i ∧ i ≤ k ∧ w' = w, fun i _ => (5 - i).toNat, ⟨by omega, hk.1, rfl⟩, ?_⟩
  rintro i w4 ⟨h1, h2, hw⟩
  replace hw := hw.symm
  subst hw
  refine ⟨fun _ => (oname_spec i w).mono ?_, fun h => by have := of_decide_eq_false h; omega⟩
  rintro e w6 ⟨rfl, hw⟩
  replace hw := hw.symm
  subst hw
  have hi : isKind i := by unfold isKind; omega
  refine ⟨_, rfl, fun he => ?_, fun he => ?_⟩
  · rw [bs_eq] at he
    have he := of_decide_eq_true he
    refine ⟨?_, rfl⟩
    rcases h with rfl | rfl | rfl | rfl <;> rcases hi with rfl | rfl | rfl | rfl <;> first | rfl | exact absurd he (by decide)
  · rw [bs_eq] at he
    have he := of_decide_eq_false he
    have hne : i ≠ k := fun e => he (by rw [e])
    rw [wrap_i64 (by omega) (by omega)]
    exact ⟨⟨by omega, by omega, rfl⟩, by dsimp only; omega⟩
theorem onumber_spec (n : Nat) (hn : n < 65001) {w : World} (ht : Tab10 w) : Calls Tryz.prog F_object_Number #[.string ⟨(dec3 n).toArray⟩] w fun e w' => e = .returned (.tuple #[.int .i64 (n : Int), .bool true]) ∧ Fr (fun _ => False) w w' := by
  refine vc_object_Number_ok (R := fun v w' => v = .tuple #[.int .i64 (n : Int), .bool true] ∧ Fr (fun _ => False) w w') ?_ (fun v w' h => ⟨by rw [h.1], h.2⟩)
  obtain ⟨f1, f2, _⟩ := dec_facts n hn
  have hsz : (⟨(dec3 n).toArray⟩ : ByteArray).size ≤ 5 := by rw [bs_mksize]; exact f2
  refine (Any.strconv_Atoi lays172 ⟨(dec3 n).toArray⟩ (n : Int) (by omega) (by rw [bs_mk]; exact f1) w).mono ?_
  rintro e w2 ⟨rfl, t, rfl⟩
  have hf2 := bytesWorld_fr w (lays172_ren.t 5) t
  generalize Lib.bytesWorld w (lays172_ren.t 5) t = w2 at hf2
  refine ⟨_, ⟨⟩, rfl, fun h => (by cases h), fun _ => ⟨fun h => (by have := of_decide_eq_true h; omega), fun _ => ⟨fun h => (by have := of_decide_eq_true h; omega), fun _ => (itoa_spec n (by omega) (ht.keep hf2)).mono ?_⟩⟩⟩
  rintro e w6 ⟨rfl, hf6⟩
  rw [itoa_dec]
  exact ⟨_, rfl, fun h => (by rw [beq_self_eq_true] at h; cases h), fun _ => ⟨rfl, hf2.trans' hf6⟩⟩
end Go.Proofs.YtllegkmadljmaaaGreatDoor

/- Objects: Decode of what was encoded. Conditions: as named. -/
set_option linter.unusedVariables false
namespace Go.Proofs.YtllegkmadljmaaaGreatDoor
open Go Vc HexM ShaM Go.Proofs

theorem cut_at {A B : List UInt8} {c : UInt8} (h : c ∉ A) : cutS ⟨(A ++ c :: B).toArray⟩ c = (⟨A.toArray⟩, ⟨B.toArray⟩, true) := by
  have hs : (⟨(A ++ c :: B).toArray⟩ : ByteArray).size = A.length + (B.length + 1) := by rw [bs_mksize, List.length_append, List.length_cons]
  have hget : ∀ k : Nat, (⟨(A ++ c :: B).toArray⟩ : ByteArray).data.toList[k]? = (A ++ c :: B)[k]? := fun k => by rw [bs_mk]
  have hix : Lib.indexByte (⟨(A ++ c :: B).toArray⟩ : ByteArray).data.toList c = ((A.length : Nat) : Int) := by
    refine fnd_at (by omega) ?_ fun k hk e => ?_
    · unfold byt
      rw [hget, List.getElem?_append_right (Nat.le_refl _), Nat.sub_self]; rfl
    · unfold byt at e
      rw [hget, List.getElem?_append_left hk, List.getElem?_eq_getElem hk] at e
      exact h (UInt8.toNat_inj.1 e ▸ List.getElem_mem hk)
  unfold cutS
  rw [hix, if_neg (by omega), Int.toNat_natCast]
  refine Prod.ext (bs_ext ?_) (Prod.ext (bs_ext ?_) rfl)
  · rw [bs_head, bs_mk, bs_mk, List.take_left]
  · rw [bs_tail, bs_mk, bs_mk, List.drop_append, List.drop_eq_nil_of_le (by omega), show A.length + 1 - A.length = 1 by omega]; rfl
theorem odecode_spec (k : Int) (hk : isKind k) (d : ByteArray) (hd : d.size ≤ 65000) {w : World} (ht : Tab10 w) : Calls Tryz.prog F_object_Decode #[.string (encS k d)] w fun e w' => e = .returned (.tuple #[.agg #[.int .i64 k, .string d], .int .i64 0]) ∧ Fr (fun _ => False) w w' := by
  refine vc_object_Decode_ok (R := fun v w' => v = .tuple #[.agg #[.int .i64 k, .string d], .int .i64 0] ∧ Fr (fun _ => False) w w') ?_ (fun v w' h => ⟨by rw [h.1], h.2⟩)
  intro w1 h1
  have hf1 : Fr (fun _ => False) w w1 := by rw [h1]; exact .alloc _ _ _
  have hb : w1.heap[w.heap.size]? = some (.cells #[.int .i64 0, .string ⟨#[]⟩] T_api_Object (0, 0)) := by rw [h1]; exact alloc_new _ _
  clear h1
  obtain ⟨k1, k2, k3, k4⟩ := kname_ok hk
  obtain ⟨f1, f2, f3, f4⟩ := dec_facts d.size (by omega)
  have hes := encS_size hk hd
  have hE : encS k d = ⟨(((kname k).data.toList ++ 32 :: dec3 d.size) ++ 0 :: d.data.toList).toArray⟩ := bs_ext (by unfold encS; rw [bs_mk, bs_app, bs_app, bs_app, bs_app, bs_mk]; simp)
  have c1 : cutS (encS k d) (UInt8.ofNat 0) = (⟨((kname k).data.toList ++ 32 :: dec3 d.size).toArray⟩, d, true) := by
    rw [hE, show UInt8.ofNat 0 = 0 from rfl, cut_at (by
      intro h
      rcases List.mem_append.1 h with h | h
      · exact k3 h
      · rcases List.mem_cons.1 h with h | h
        · cases h
        · exact f3 h), bs_self]
  have c2 : cutS ⟨((kname k).data.toList ++ 32 :: dec3 d.size).toArray⟩ (UInt8.ofNat 32) = (kname k, ⟨(dec3 d.size).toArray⟩, true) := by
    rw [show UInt8.ofNat 32 = 32 from rfl, cut_at k4, bs_self]
  have hH : (⟨((kname k).data.toList ++ 32 :: dec3 d.size).toArray⟩ : ByteArray).size ≤ 400 := by rw [bs_mksize, List.length_append, List.length_cons, bs_len]; omega
  have q1 := cut_spec (encS k d) (by omega) 0 (by decide) w1
  rw [c1] at q1
  dsimp only at q1
  refine q1.mono ?_
  rintro e w3 ⟨rfl, d3⟩
  have q2 := cut_spec ⟨((kname k).data.toList ++ 32 :: dec3 d.size).toArray⟩ (by omega) 32 (by decide) w3
  rw [c2] at q2
  dsimp only at q2
  refine ⟨_, _, _, rfl, q2.mono ?_⟩
  rintro e w8 ⟨rfl, d8⟩
  have hf8 : Fr (fun _ => False) w1 w8 := .drew _ (d3.trans d8)
  refine ⟨_, _, _, rfl, (onumber_spec d.size (by omega) (ht.keep (hf1.trans' hf8))).mono ?_⟩
  rintro e w13 ⟨rfl, hf13⟩
  have hf13' := hf8.trans' hf13
  refine ⟨_, _, rfl, fun h => (by cases h), fun _ => ⟨fun h => (by cases h), fun _ => ⟨fun h => (by cases h), fun _ => (okind_spec hk w13).mono ?_⟩⟩⟩
  rintro e w26 ⟨rfl, hw⟩
  replace hw := hw.symm
  subst hw
  refine ⟨_, rfl, fun h => ?_, fun _ => ⟨fun h => (by have := of_decide_eq_true h; omega), fun _ => ⟨fun h => (by have := of_decide_eq_true h; omega), fun _ => ⟨fun h => (by have := of_decide_eq_true h; omega), fun _ => (okind_spec hk w13).mono ?_⟩⟩⟩⟩
  · have := eq_of_beq h
    unfold isKind at hk; omega
  rintro e w41 ⟨rfl, hw⟩
  replace hw := hw.symm
  subst hw
  obtain ⟨w43, hr43, hb43, hf43⟩ := boxO_store (hf13'.keep hb (by simp)) rfl k d
  exact ⟨_, rfl, w43, hr43, _, _, boxO_load hb43, rfl, (hf1.trans' hf13').trans hf43 fun q hq e => by omega⟩
end Go.Proofs.YtllegkmadljmaaaGreatDoor

/- Plain facts on codes by their lengths. -/
set_option linter.unusedVariables false
namespace HuffM
/-- How many of the numbers of n bits the codes of at most n bits take up. -/
def fin (ls : List Nat) : Nat → Nat
  | 0 => 0
  | n + 1 => 2 * fin ls n + ls.count (n + 1)
theorem fin_double (ls : List Nat) (n : Nat) : ∀ d, 2 ^ d * fin ls n ≤ fin ls (n + d)
  | 0 => by simp
  | d + 1 => by
    have := fin_double ls n d
    rw [← Nat.add_assoc, fin, Nat.pow_succ, Nat.mul_comm (2 ^ d) 2, Nat.mul_assoc]; omega
/-- Over-full at n: over-full at every greater length. -/
theorem over_later (ls : List Nat) {n m : Nat} (h : 2 ^ n < fin ls n) (hm : n ≤ m) : 2 ^ m < fin ls m := by
  have := fin_double ls n (m - n)
  rw [show n + (m - n) = m by omega] at this
  have h2 : 2 ^ m = 2 ^ (m - n) * 2 ^ n := by rw [← Nat.pow_add]; congr 1; omega
  have h3 : 2 ^ (m - n) * 2 ^ n < 2 ^ (m - n) * fin ls n := Nat.mul_lt_mul_of_pos_left h (Nat.two_pow_pos _)
  omega
/-- The symbols whose codes have n bits. -/
def syms (ls : List Nat) (n : Nat) : List Nat := (List.range ls.length).filter (fun s => ls[s]? == some n)
/-- The symbols by length, up to n bits. -/
def sorted (ls : List Nat) : Nat → List Nat
  | 0 => []
  | n + 1 => sorted ls n ++ syms ls (n + 1)
/-- A symbol's code. -/
def code (ls : List Nat) (s : Nat) : Nat := 2 * fin ls (ls.getD s 0 - 1) + (ls.take s).count (ls.getD s 0)
theorem filter_range_get (p : Nat → Bool) : ∀ (k r s : Nat), ((List.range k).filter p)[r]? = some s → p s = true ∧ s < k ∧ ((List.range s).filter p).length = r
  | 0, r, s, h => by simp at h
  | k + 1, r, s, h => by
    rw [List.range_succ, List.filter_append] at h
    by_cases hr : r < ((List.range k).filter p).length
    · rw [List.getElem?_append_left hr] at h
      obtain ⟨h1, h2, h3⟩ := filter_range_get p k r s h
      exact ⟨h1, by omega, h3⟩
    · rw [List.getElem?_append_right (by omega)] at h
      by_cases hp : p k = true
      · rw [List.filter_cons_of_pos hp] at h
        cases hq : r - ((List.range k).filter p).length with
        | zero =>
          rw [hq] at h
          simp only [List.filter_nil, List.getElem?_cons_zero, Option.some.injEq] at h
          subst h
          exact ⟨hp, by omega, by omega⟩
        | succ q => rw [hq] at h; simp at h
      · rw [List.filter_cons_of_neg hp] at h; simp at h
theorem filter_range_count (ls : List Nat) (n : Nat) : ∀ k, k ≤ ls.length → ((List.range k).filter (fun s => ls[s]? == some n)).length = (ls.take k).count n
  | 0, _ => rfl
  | k + 1, h => by
    rw [List.range_succ, List.filter_append, List.length_append, filter_range_count ls n k (by omega), List.take_succ_eq_append_getElem (by omega), List.count_append]
    congr 1
    rw [List.filter_cons, List.getElem?_eq_getElem (by omega)]
    by_cases hx : ls[k] = n
    · simp [hx]
    · simp [hx]
theorem syms_length (ls : List Nat) (n : Nat) : (syms ls n).length = ls.count n := by
  have := filter_range_count ls n ls.length (Nat.le_refl _)
  rwa [List.take_length] at this
theorem syms_get {ls : List Nat} {n r s : Nat} (h : (syms ls n)[r]? = some s) : ls[s]? = some n ∧ (ls.take s).count n = r := by
  obtain ⟨h1, h2, h3⟩ := filter_range_get _ _ _ _ h
  have h1 : ls[s]? = some n := by simpa using h1
  exact ⟨h1, by rw [← h3, filter_range_count ls n s (by omega)]⟩
theorem countP_step (m : Nat) : ∀ l : List Nat, l.countP (fun x => decide (1 ≤ x ∧ x ≤ m + 1)) = l.countP (fun x => decide (1 ≤ x ∧ x ≤ m)) + l.count (m + 1)
  | [] => rfl
  | x :: l => by
    simp only [List.countP_cons, List.count_cons, countP_step m l]
    by_cases h1 : x = m + 1
    · subst h1
      have h4 : ¬ (m + 1 ≤ m) := by omega
      simp [h4]; omega
    · by_cases h2 : 1 ≤ x ∧ x ≤ m
      · have h3 : 1 ≤ x ∧ x ≤ m + 1 := by omega
        simp [h1, h2, h3]; omega
      · have h3 : ¬ (1 ≤ x ∧ x ≤ m + 1) := by omega
        simp [h1, h2, h3]
/-- How many symbols have a code of at most n bits. -/
theorem sorted_length (ls : List Nat) : ∀ m, (sorted ls m).length = ls.countP (fun x => decide (1 ≤ x ∧ x ≤ m))
  | 0 => by simp only [sorted, List.length_nil]; rw [eq_comm, List.countP_eq_zero]; intro x _; simp; omega
  | m + 1 => by simp only [sorted, List.length_append, sorted_length ls m, syms_length, countP_step]
theorem sorted_le (ls : List Nat) (m : Nat) : (sorted ls m).length ≤ ls.length := by rw [sorted_length]; exact List.countP_le_length
end HuffM

/- Plain facts on lists of bits, the lowest of each byte first. -/
set_option linter.unusedVariables false
namespace BitsM
open Vc
def num : List Bool → Nat
  | [] => 0
  | b :: r => b.toNat + 2 * num r
theorem num_lt : ∀ l : List Bool, num l < 2 ^ l.length
  | [] => by simp [num]
  | b :: r => by
    have h := num_lt r
    have hb : b.toNat ≤ 1 := Bool.toNat_le b
    simp only [num, List.length_cons, Nat.pow_succ]; omega
theorem num_append : ∀ l r : List Bool, num (l ++ r) = num l + 2 ^ l.length * num r
  | [], r => by simp [num]
  | b :: l, r => by
    simp only [List.cons_append, num, num_append l r, List.length_cons, Nat.pow_succ]
    rw [Nat.mul_add, ← Nat.mul_assoc, Nat.mul_comm 2 (2 ^ l.length)]; omega
theorem num_drop (l : List Bool) (k : Nat) : num (l.drop k) = num l / 2 ^ k := by
  rcases Nat.lt_or_ge l.length k with h | h
  · rw [List.drop_eq_nil_of_le (by omega)]
    have h1 := num_lt l
    have h2 : 2 ^ l.length ≤ 2 ^ k := Nat.pow_le_pow_right (by decide) (by omega)
    rw [Nat.div_eq_of_lt (by omega)]; rfl
  · have h1 := num_append (l.take k) (l.drop k)
    rw [List.take_append_drop] at h1
    have h2 := num_lt (l.take k)
    rw [List.length_take, Nat.min_eq_left h] at h1 h2
    rw [h1, Nat.add_mul_div_left _ _ (Nat.two_pow_pos k), Nat.div_eq_of_lt h2, Nat.zero_add]
theorem num_take (l : List Bool) (k : Nat) : num (l.take k) = num l % 2 ^ k := by
  rcases Nat.lt_or_ge l.length k with h | h
  · rw [List.take_of_length_le (by omega)]
    have h1 := num_lt l
    have h2 : 2 ^ l.length ≤ 2 ^ k := Nat.pow_le_pow_right (by decide) (by omega)
    rw [Nat.mod_eq_of_lt (by omega)]
  · have h1 := num_append (l.take k) (l.drop k)
    rw [List.take_append_drop] at h1
    have h2 := num_lt (l.take k)
    rw [List.length_take, Nat.min_eq_left h] at h1 h2
    rw [h1, Nat.add_mul_mod_self_left, Nat.mod_eq_of_lt h2]
/-- The lowest n bits of x. -/
def lowB : Nat → Nat → List Bool
  | 0, _ => []
  | n + 1, x => (x % 2 == 1) :: lowB n (x / 2)
theorem lowB_length : ∀ n x, (lowB n x).length = n
  | 0, _ => rfl
  | n + 1, x => by simp [lowB, lowB_length n]
theorem num_lowB : ∀ n x, num (lowB n x) = x % 2 ^ n
  | 0, x => by simp [lowB, num, Nat.mod_one]
  | n + 1, x => by
    simp only [lowB, num, num_lowB n (x / 2)]
    rw [Nat.pow_succ', Nat.mod_mul]
    have : (x % 2 == 1).toNat = x % 2 := by rcases Nat.mod_two_eq_zero_or_one x with h | h <;> simp [h]
    omega
theorem lowB_get : ∀ (n x i : Nat), i < n → (lowB n x)[i]? = some (x.testBit i)
  | n + 1, x, 0, _ => by simp [lowB, Nat.testBit_zero]; rfl
  | n + 1, x, i + 1, h => by simp only [lowB, List.getElem?_cons_succ, lowB_get n (x / 2) i (by omega), Nat.testBit_succ]
/-- The bits of a text. -/
def sbits : List UInt8 → List Bool
  | [] => []
  | c :: r => lowB 8 c.toNat ++ sbits r
theorem sbits_length : ∀ l, (sbits l).length = 8 * l.length
  | [] => rfl
  | c :: r => by simp only [sbits, List.length_append, lowB_length, sbits_length r, List.length_cons]; omega
theorem sbits_append : ∀ l r, sbits (l ++ r) = sbits l ++ sbits r
  | [], r => rfl
  | c :: l, r => by simp [sbits, sbits_append l r]
theorem sbits_drop : ∀ (l : List UInt8) (k : Nat), sbits (l.drop k) = (sbits l).drop (8 * k)
  | l, 0 => by simp
  | [], k + 1 => by simp [sbits]
  | c :: l, k + 1 => by
    simp only [List.drop_succ_cons, sbits, sbits_drop l k]
    rw [show 8 * (k + 1) = (lowB 8 c.toNat).length + 8 * k by rw [lowB_length]; omega, ← List.drop_drop, List.drop_left]
theorem num_sbits_take (s : ByteArray) : ∀ n, n ≤ s.size → num (sbits (s.data.toList.take n)) = V s n
  | 0, _ => rfl
  | n + 1, h => by
    have hlt : n < s.data.toList.length := by simp only [Array.length_toList]; exact h
    rw [List.take_succ_eq_append_getElem hlt, sbits_append, num_append, num_sbits_take s n (by omega), sbits_length, List.length_take, Nat.min_eq_left (by omega)]
    have hb : byt s n = (s.data.toList[n]).toNat := by unfold byt; rw [List.getElem?_eq_getElem hlt]; rfl
    simp only [V, sbits, List.append_nil, num_lowB, hb]
    have := (s.data.toList[n]).toNat_lt
    rw [Nat.mod_eq_of_lt (by omega), Nat.mul_comm]
theorem num_sbits (s : ByteArray) : num (sbits s.data.toList) = V s s.size := by
  have := num_sbits_take s s.size (Nat.le_refl _)
  rwa [List.take_of_length_le (by simp)] at this
/-- The next k bits by the list. -/
theorem nbits_list (s : ByteArray) (pos k : Nat) : nbits s pos k = num (((sbits s.data.toList).drop pos).take k) := by
  rw [num_take, num_drop, num_sbits]; rfl
end BitsM

/- Plain facts on codes: bits with the highest first, no code begins another one, what reading comes to. -/
set_option linter.unusedVariables false
namespace HuffM
open BitsM
/-- The number of some bits, the highest first. -/
def hv (l : List Bool) : Nat := num l.reverse
theorem hv_snoc (l : List Bool) (b : Bool) : hv (l ++ [b]) = 2 * hv l + b.toNat := by
  simp only [hv, List.reverse_append, List.reverse_cons, List.reverse_nil, List.nil_append, List.singleton_append, num]; omega
theorem hv_lt (l : List Bool) : hv l < 2 ^ l.length := by have := num_lt l.reverse; rwa [List.length_reverse] at this
theorem hv_take (l : List Bool) {m n : Nat} (hm : m ≤ n) (hn : n ≤ l.length) : hv (l.take m) = hv (l.take n) / 2 ^ (n - m) := by
  have h1 : l.take m = (l.take n).take m := by rw [List.take_take, Nat.min_eq_left hm]
  rw [h1, hv, hv, List.reverse_take, List.length_take, Nat.min_eq_left hn, num_drop]
/-- A symbol's code, bit by bit, the highest first. -/
def cbits (ls : List Nat) (s : Nat) : List Bool := (lowB (ls.getD s 0) (code ls s)).reverse
theorem cbits_length (ls : List Nat) (s : Nat) : (cbits ls s).length = ls.getD s 0 := by simp [cbits, lowB_length]
theorem getD_of {ls : List Nat} {s n : Nat} (h : ls[s]? = some n) : ls.getD s 0 = n := by simp [h]
theorem count_take_lt {ls : List Nat} {s n : Nat} (h : ls[s]? = some n) : (ls.take s).count n < ls.count n := by
  obtain ⟨h1, h2⟩ := List.getElem?_eq_some_iff.1 h
  conv => rhs; rw [← List.take_append_drop s ls]
  rw [List.count_append, List.drop_eq_getElem_cons h1, h2]
  simp
theorem count_take_mono (ls : List Nat) (n : Nat) {s x : Nat} (h : s ≤ x) : (ls.take s).count n ≤ (ls.take x).count n := by
  have : ls.take s = (ls.take x).take s := by rw [List.take_take, Nat.min_eq_left h]
  rw [this]
  exact (List.take_sublist s (ls.take x)).count_le n
theorem count_take_step {ls : List Nat} {s n x : Nat} (h : ls[s]? = some n) (hx : s < x) : (ls.take s).count n < (ls.take x).count n := by
  have h1 := count_take_mono ls n (show s + 1 ≤ x by omega)
  obtain ⟨h2, h3⟩ := List.getElem?_eq_some_iff.1 h
  rw [List.take_succ_eq_append_getElem h2, List.count_append, h3] at h1
  simp at h1; omega
theorem code_lt {ls : List Nat} {s n : Nat} (h : ls[s]? = some n) (h1 : 1 ≤ n) : code ls s < fin ls n := by
  obtain ⟨m, rfl⟩ : ∃ m, n = m + 1 := ⟨n - 1, by omega⟩
  have := count_take_lt h
  rw [code, getD_of h, fin, Nat.add_sub_cancel]; omega
theorem code_ge {ls : List Nat} {s n : Nat} (h : ls[s]? = some n) : 2 * fin ls (n - 1) ≤ code ls s := by
  rw [code, getD_of h]; omega
/-- The codes of greater length stand above. -/
theorem code_above {ls : List Nat} {s n m : Nat} (h : ls[s]? = some n) (h1 : m < n) : fin ls m ≤ code ls s / 2 ^ (n - m) := by
  rw [Nat.le_div_iff_mul_le (Nat.two_pow_pos _)]
  have h2 := fin_double ls m (n - 1 - m)
  rw [show m + (n - 1 - m) = n - 1 by omega] at h2
  have h3 := code_ge h
  have h4 : 2 ^ (n - m) = 2 * 2 ^ (n - 1 - m) := by rw [← Nat.pow_succ']; congr 1; omega
  rw [h4, Nat.mul_comm, Nat.mul_assoc]; omega
/-- Not over-full. -/
def Fits (ls : List Nat) : Prop := fin ls 15 ≤ 32768 ∧ ∀ n ∈ ls, n ≤ 15
theorem Fits.le {ls : List Nat} (h : Fits ls) {n : Nat} (hn : n ≤ 15) : fin ls n ≤ 2 ^ n := by
  rcases Nat.lt_or_ge (2 ^ n) (fin ls n) with h1 | h1
  · have := over_later ls h1 hn
    have := h.1
    omega
  · exact h1
theorem Fits.mem {ls : List Nat} (h : Fits ls) {s n : Nat} (hs : ls[s]? = some n) : n ≤ 15 := h.2 n (List.mem_of_getElem? hs)
theorem hv_cbits {ls : List Nat} (hf : Fits ls) {s n : Nat} (h : ls[s]? = some n) (h1 : 1 ≤ n) : hv (cbits ls s) = code ls s := by
  rw [cbits, hv, List.reverse_reverse, num_lowB, getD_of h]
  have := code_lt h h1
  have := hf.le (hf.mem h)
  exact Nat.mod_eq_of_lt (by omega)
/-- The symbol s, of n bits, stands at the front of b. -/
def At (ls : List Nat) (b : List Bool) (s n : Nat) : Prop := ls[s]? = some n ∧ 1 ≤ n ∧ n ≤ b.length ∧ hv (b.take n) = code ls s
theorem At.one {ls : List Nat} {b : List Bool} {s n x m : Nat} (h : At ls b s n) (h' : At ls b x m) : s = x ∧ n = m := by
  have key : ∀ {s n x m}, At ls b s n → At ls b x m → ¬ m < n := by
    intro s n x m h h' hlt
    have h1 := hv_take b (Nat.le_of_lt hlt) h.2.2.1
    rw [h.2.2.2, h'.2.2.2] at h1
    have h2 := code_above h.1 hlt
    have h3 := code_lt h'.1 h'.2.1
    omega
  have hn : n = m := by have := key h h'; have := key h' h; omega
  subst hn
  refine ⟨?_, rfl⟩
  have h1 : code ls s = code ls x := h.2.2.2.symm.trans h'.2.2.2
  rw [code, code, getD_of h.1, getD_of h'.1] at h1
  rcases Nat.lt_trichotomy s x with h2 | h2 | h2
  · have := count_take_step h.1 h2; omega
  · exact h2
  · have := count_take_step h'.1 h2; omega
/-- The place of a number among the symbols of n bits. -/
theorem syms_code {ls : List Nat} {n k s : Nat} (h : (syms ls n)[k]? = some s) : ls[s]? = some n ∧ code ls s = 2 * fin ls (n - 1) + k := by
  obtain ⟨h1, h2⟩ := syms_get h
  exact ⟨h1, by rw [code, getD_of h1, h2]⟩
theorem sorted_get {ls : List Nat} {n k s : Nat} (hn : 1 ≤ n) (h : (syms ls n)[k]? = some s) : ∀ d, (sorted ls (n + d))[(sorted ls (n - 1)).length + k]? = some s
  | 0 => by
    obtain ⟨m, rfl⟩ : ∃ m, n = m + 1 := ⟨n - 1, by omega⟩
    rw [Nat.add_zero, Nat.add_sub_cancel, sorted, List.getElem?_append_right (by omega), Nat.add_sub_cancel_left]
    exact h
  | d + 1 => by
    have h1 := sorted_get hn h d
    rw [← Nat.add_assoc, sorted, List.getElem?_append_left (List.getElem?_eq_some_iff.1 h1).1]
    exact h1
/-- A row without a gap. -/
def Full (ls : List Nat) : Prop := fin ls 15 = 32768
/-- A number that is not below the codes of at most n bits, but below those of at most n + d bits if it goes on with noughts, goes on to a longer one's code. -/
theorem ext_at {ls : List Nat} {n x : Nat} (h : fin ls n ≤ x) : ∀ d, x * 2 ^ d < fin ls (n + d) → ∃ s m, ls[s]? = some m ∧ n < m ∧ m ≤ n + d ∧ code ls s / 2 ^ (m - n) = x
  | 0, h1 => by simp only [Nat.pow_zero, Nat.mul_one, Nat.add_zero] at h1; omega
  | d + 1, h1 => by
    by_cases h2 : x * 2 ^ d < fin ls (n + d)
    · obtain ⟨s, m, a, b, c, e⟩ := ext_at h d h2
      exact ⟨s, m, a, b, by omega, e⟩
    · have e2 : fin ls (n + (d + 1)) = 2 * fin ls (n + d) + ls.count (n + d + 1) := rfl
      have e3 : x * 2 ^ (d + 1) = 2 * (x * 2 ^ d) := by rw [Nat.pow_succ, Nat.mul_comm (2 ^ d) 2, ← Nat.mul_assoc, Nat.mul_comm x 2, Nat.mul_assoc]
      have hk : 2 * (x * 2 ^ d) - 2 * fin ls (n + d) < (syms ls (n + d + 1)).length := by rw [syms_length]; omega
      obtain ⟨s, hs⟩ : ∃ s, (syms ls (n + d + 1))[2 * (x * 2 ^ d) - 2 * fin ls (n + d)]? = some s := ⟨_, List.getElem?_eq_getElem hk⟩
      obtain ⟨h3, h4⟩ := syms_code hs
      refine ⟨s, _, h3, by omega, by omega, ?_⟩
      rw [h4, Nat.add_sub_cancel, show n + d + 1 - n = d + 1 by omega]
      have e5 : 2 * fin ls (n + d) + (2 * (x * 2 ^ d) - 2 * fin ls (n + d)) = x * 2 ^ (d + 1) := by omega
      rw [e5, Nat.mul_div_cancel _ (Nat.two_pow_pos _)]
theorem full_ext {ls : List Nat} (hf : Full ls) {n x : Nat} (hn : n ≤ 15) (h : fin ls n ≤ x) (hx : x < 2 ^ n) : ∃ s m, ls[s]? = some m ∧ n < m ∧ m ≤ 15 ∧ code ls s / 2 ^ (m - n) = x := by
  have h1 := ext_at h (15 - n) (by
    rw [show n + (15 - n) = 15 by omega, hf, show (32768 : Nat) = 2 ^ n * 2 ^ (15 - n) by rw [← Nat.pow_add, show n + (15 - n) = 15 by omega]]
    exact Nat.mul_lt_mul_of_pos_right hx (Nat.two_pow_pos _))
  rwa [show n + (15 - n) = 15 by omega] at h1
end HuffM

/- Formulas of 9 Go functions of this seat (written by a program of the author's, vcgen.py), and that each is enough for the call. No condition. -/
set_option linter.unusedVariables false
namespace Go.Proofs.YtllegkmadljmaaaGreatDoor
open Go Vc Go.Proofs
set_option maxRecDepth 100000
def vc_bitin_Reader_fill (x0 : Nat) (x1 : Int) (w : World) (R : Value → World → Prop) : Prop :=
 ∃ I1 : World → Prop, ∃ I2 : World → Nat, (I1 w ∧
 ∀ w3 : World,
 (I1 w3 →
 ∃ n4 : Int, (World.cell? w3 (Addr.mk x0 3 none) = some (Value.int .i64 n4) ∧
 (((decide (n4 < x1) = true →
 ∃ n5 : Int, (World.cell? w3 (Addr.mk x0 1 none) = some (Value.int .i64 n5) ∧
 ∃ s6 : ByteArray, (World.cell? w3 (Addr.mk x0 0 none) = some (Value.string s6) ∧
 ∀ w7 : World,
 (Drew w3 w7 →
 (((decide (n5 < (↑(ByteArray.size s6) : Int)) = true →
 ∀ w8 : World,
 (Drew w7 w8 →
 ∃ n9 : Int, (World.cell? w8 (Addr.mk x0 2 none) = some (Value.int .u64 n9) ∧
 ∃ s10 : ByteArray, (World.cell? w8 (Addr.mk x0 0 none) = some (Value.string s10) ∧
 ∃ n11 : Int, (World.cell? w8 (Addr.mk x0 1 none) = some (Value.int .i64 n11) ∧
 ((0 ≤ n11 ∧
 n11 < (↑(ByteArray.size s10) : Int)) ∧
 ∃ n12 : Int, (World.cell? w8 (Addr.mk x0 3 none) = some (Value.int .i64 n12) ∧
 (0 ≤ n12 ∧
 (Wr w8 (Addr.mk x0 2 none) ∧
 ∀ w13 : World,
 (w13 = World.setCell w8 (Addr.mk x0 2 none) (Value.int .u64 (IntKind.wrap .u64 (↑(BitVec.toNat (BitVec.ofInt 64 n9 ||| BitVec.ofInt 64 (IntKind.wrap .u64 (IntKind.wrap .u64 (byteAt s10 n11) * 2 ^ min (Int.toNat n12) 64)))) : Int))) →
 ∃ n14 : Int, (World.cell? w13 (Addr.mk x0 1 none) = some (Value.int .i64 n14) ∧
 (Wr w13 (Addr.mk x0 1 none) ∧
 ∀ w15 : World,
 (w15 = World.setCell w13 (Addr.mk x0 1 none) (Value.int .i64 (IntKind.wrap .i64 (n14 + 1))) →
 ∃ n16 : Int, (World.cell? w15 (Addr.mk x0 3 none) = some (Value.int .i64 n16) ∧
 (Wr w15 (Addr.mk x0 3 none) ∧
 ∀ w17 : World,
 (w17 = World.setCell w15 (Addr.mk x0 3 none) (Value.int .i64 (IntKind.wrap .i64 (n16 + 8))) →
 (I1 w17 ∧
 I2 w17 < I2 w3)))))))))))))))))) ∧
 (decide (n5 < (↑(ByteArray.size s6) : Int)) = false →
 R (Value.tuple (Array.mk [])) w7))))))) ∧
 (decide (n4 < x1) = false →
 ∀ w18 : World,
 (Drew w3 w18 →
 R (Value.tuple (Array.mk [])) w18))))))
theorem vc_bitin_Reader_fill_ok {x0 : Nat} {x1 : Int} {w : World} {R : Value → World → Prop} {R' : Ending → World → Prop} (h : vc_bitin_Reader_fill x0 x1 w R) (hR : ∀ v w', R v w' → R' (.returned v) w') :
    Calls Tryz.prog 217 #[.pointer (some ⟨x0, 0, none⟩), .int .i64 x1] w R' :=
  calls_of_body (vs := [(.pointer (some ⟨x0, 0, none⟩), true), (.int .i64 x1, false)]) (ty := ty) (ann := ⟨[], [(0, [])], [(0, .quiet), (1, .tail 22)], []⟩) (c := Tryz.f217.body.getD .skip) (by kernel_rfl) Tryz.func217 (by kernel_rfl) (by kernel_rfl) (Eq.mp (by kernel_rfl) h) hR
def vc_bitin_Reader_Left (x0 : Nat) (w : World) (R : Value → World → Prop) : Prop :=
 ∃ s1 : ByteArray, (World.cell? w (Addr.mk x0 0 none) = some (Value.string s1) ∧
 ∃ n2 : Int, (World.cell? w (Addr.mk x0 1 none) = some (Value.int .i64 n2) ∧
 ∃ n3 : Int, (World.cell? w (Addr.mk x0 3 none) = some (Value.int .i64 n3) ∧
 ∀ w4 : World,
 (Drew w w4 →
 R (Value.int .i64 (IntKind.wrap .i64 (IntKind.wrap .i64 (8 * IntKind.wrap .i64 ((↑(ByteArray.size s1) : Int) - n2)) + n3))) w4))))
theorem vc_bitin_Reader_Left_ok {x0 : Nat} {w : World} {R : Value → World → Prop} {R' : Ending → World → Prop} (h : vc_bitin_Reader_Left x0 w R) (hR : ∀ v w', R v w' → R' (.returned v) w') :
    Calls Tryz.prog 215 #[.pointer (some ⟨x0, 0, none⟩)] w R' :=
  calls_of_body (vs := [(.pointer (some ⟨x0, 0, none⟩), true)]) (ty := ty) (ann := ⟨[], [], [(1, .quiet)], []⟩) (c := Tryz.f215.body.getD .skip) (by kernel_rfl) Tryz.func215 (by kernel_rfl) (by kernel_rfl) (Eq.mp (by kernel_rfl) h) hR
def vc_bitin_Reader_Peek (x0 : Nat) (x1 : Int) (w : World) (R : Value → World → Prop) : Prop :=
 (((decide (x1 < 0) = true →
 R (Value.tuple (Array.mk [Value.int .u32 0, Value.int .i64 0])) w)) ∧
 (decide (x1 < 0) = false →
 (((decide (x1 > 32) = true →
 R (Value.tuple (Array.mk [Value.int .u32 0, Value.int .i64 0])) w)) ∧
 (decide (x1 > 32) = false →
 Calls Tryz.prog (217 : Nat) (Array.mk [Value.pointer (some (Addr.mk x0 0 none)), Value.int .i64 x1]) (w) (fun e1 w2 =>
 (e1 = Ending.returned (Value.tuple (Array.mk [])) ∧
 ∃ n3 : Int, (World.cell? w2 (Addr.mk x0 2 none) = some (Value.int .u64 n3) ∧
 (0 ≤ x1 ∧
 ∃ n4 : Int, (World.cell? w2 (Addr.mk x0 3 none) = some (Value.int .i64 n4) ∧
 ∀ w5 : World,
 (Drew w2 w5 →
 (R (Value.tuple (Array.mk [Value.int .u32 (IntKind.wrap .u32 (IntKind.wrap .u64 (↑(BitVec.toNat (BitVec.ofInt 64 n3 &&& BitVec.ofInt 64 (IntKind.wrap .u64 (IntKind.wrap .u64 (1 * 2 ^ min (Int.toNat x1) 64) - 1)))) : Int))), Value.int .i64 (if n4 < x1 then n4 else x1)])) w5)))))))))))
theorem vc_bitin_Reader_Peek_ok {x0 : Nat} {x1 : Int} {w : World} {R : Value → World → Prop} {R' : Ending → World → Prop} (h : vc_bitin_Reader_Peek x0 x1 w R) (hR : ∀ v w', R v w' → R' (.returned v) w') :
    Calls Tryz.prog 211 #[.pointer (some ⟨x0, 0, none⟩), .int .i64 x1] w R' :=
  calls_of_body (vs := [(.pointer (some ⟨x0, 0, none⟩), true), (.int .i64 x1, false)]) (ty := ty) (ann := ⟨[], [], [(4, .quiet)], []⟩) (c := Tryz.f211.body.getD .skip) (by kernel_rfl) Tryz.func211 (by kernel_rfl) (by kernel_rfl) (Eq.mp (by kernel_rfl) h) hR
def vc_bitin_New (x0 : ByteArray) (x1 : Int) (w : World) (R : Value → World → Prop) : Prop :=
 ∀ w1 : World,
 ((w1 = World.alloc w (Obj.cells (Array.mk [Value.string x0, Value.int .i64 (if (if (↑(ByteArray.size x0) : Int) < x1 then (↑(ByteArray.size x0) : Int) else x1) > 0 then if (↑(ByteArray.size x0) : Int) < x1 then (↑(ByteArray.size x0) : Int) else x1 else 0), Value.int .u64 0, Value.int .i64 0, Value.int .i64 (if (if (↑(ByteArray.size x0) : Int) < x1 then (↑(ByteArray.size x0) : Int) else x1) > 0 then if (↑(ByteArray.size x0) : Int) < x1 then (↑(ByteArray.size x0) : Int) else x1 else 0)]) 279)) →
 R (Value.pointer (some (Addr.mk (Array.size (World.heap w)) 0 none))) w1)
theorem vc_bitin_New_ok {x0 : ByteArray} {x1 : Int} {w : World} {R : Value → World → Prop} {R' : Ending → World → Prop} (h : vc_bitin_New x0 x1 w R) (hR : ∀ v w', R v w' → R' (.returned v) w') :
    Calls Tryz.prog 195 #[.string x0, .int .i64 x1] w R' :=
  calls_of_body (vs := [(.string x0, false), (.int .i64 x1, false)]) (ty := ty) (ann := ⟨[], [], [], []⟩) (c := Tryz.f195.body.getD .skip) (by kernel_rfl) Tryz.func195 (by kernel_rfl) (by kernel_rfl) (Eq.mp (by kernel_rfl) h) hR
def vc_bitin_Reader_Bits (x0 : Nat) (x1 : Int) (w : World) (R : Value → World → Prop) : Prop :=
 Calls Tryz.prog (211 : Nat) (Array.mk [Value.pointer (some (Addr.mk x0 0 none)), Value.int .i64 x1]) (w) (fun e1 w2 =>
 ∃ n3 : Int, ∃ n4 : Int, (e1 = Ending.returned (Value.tuple (Array.mk [Value.int .u32 n3, Value.int .i64 n4])) ∧
 Calls Tryz.prog (212 : Nat) (Array.mk [Value.pointer (some (Addr.mk x0 0 none)), Value.int .i64 x1]) (w2) (fun e5 w6 =>
 ∃ b7 : Bool, (e5 = Ending.returned (Value.bool b7) ∧
 ((((!b7) = true →
 R (Value.tuple (Array.mk [Value.int .u32 0, Value.bool false])) w6)) ∧
 ((!b7) = false →
 R (Value.tuple (Array.mk [Value.int .u32 n3, Value.bool true])) w6))))))
theorem vc_bitin_Reader_Bits_ok {x0 : Nat} {x1 : Int} {w : World} {R : Value → World → Prop} {R' : Ending → World → Prop} (h : vc_bitin_Reader_Bits x0 x1 w R) (hR : ∀ v w', R v w' → R' (.returned v) w') :
    Calls Tryz.prog 203 #[.pointer (some ⟨x0, 0, none⟩), .int .i64 x1] w R' :=
  calls_of_body (vs := [(.pointer (some ⟨x0, 0, none⟩), true), (.int .i64 x1, false)]) (ty := ty) (ann := ⟨[], [], [], []⟩) (c := Tryz.f203.body.getD .skip) (by kernel_rfl) Tryz.func203 (by kernel_rfl) (by kernel_rfl) (Eq.mp (by kernel_rfl) h) hR
def vc_bitin_Reader_Skip (x0 : Nat) (x1 : Int) (w : World) (R : Value → World → Prop) : Prop :=
 (((decide (x1 < 0) = true →
 R (Value.bool false) w)) ∧
 (decide (x1 < 0) = false →
 (((decide (x1 > 32) = true →
 R (Value.bool false) w)) ∧
 (decide (x1 > 32) = false →
 Calls Tryz.prog (217 : Nat) (Array.mk [Value.pointer (some (Addr.mk x0 0 none)), Value.int .i64 x1]) (w) (fun e1 w2 =>
 (e1 = Ending.returned (Value.tuple (Array.mk [])) ∧
 ∃ n3 : Int, (World.cell? w2 (Addr.mk x0 3 none) = some (Value.int .i64 n3) ∧
 (((decide (n3 < x1) = true →
 R (Value.bool false) w2)) ∧
 (decide (n3 < x1) = false →
 ∃ n4 : Int, (World.cell? w2 (Addr.mk x0 2 none) = some (Value.int .u64 n4) ∧
 (0 ≤ x1 ∧
 (Wr w2 (Addr.mk x0 2 none) ∧
 ∀ w5 : World,
 (w5 = World.setCell w2 (Addr.mk x0 2 none) (Value.int .u64 (Int.fdiv n4 (2 ^ min (Int.toNat x1) 64))) →
 ∃ n6 : Int, (World.cell? w5 (Addr.mk x0 3 none) = some (Value.int .i64 n6) ∧
 (Wr w5 (Addr.mk x0 3 none) ∧
 ∀ w7 : World,
 (w7 = World.setCell w5 (Addr.mk x0 3 none) (Value.int .i64 (IntKind.wrap .i64 (n6 - x1))) →
 R (Value.bool true) w7))))))))))))))))
theorem vc_bitin_Reader_Skip_ok {x0 : Nat} {x1 : Int} {w : World} {R : Value → World → Prop} {R' : Ending → World → Prop} (h : vc_bitin_Reader_Skip x0 x1 w R) (hR : ∀ v w', R v w' → R' (.returned v) w') :
    Calls Tryz.prog 212 #[.pointer (some ⟨x0, 0, none⟩), .int .i64 x1] w R' :=
  calls_of_body (vs := [(.pointer (some ⟨x0, 0, none⟩), true), (.int .i64 x1, false)]) (ty := ty) (ann := ⟨[], [], [], []⟩) (c := Tryz.f212.body.getD .skip) (by kernel_rfl) Tryz.func212 (by kernel_rfl) (by kernel_rfl) (Eq.mp (by kernel_rfl) h) hR
def vc_bitin_Reader_Used (x0 : Nat) (w : World) (R : Value → World → Prop) : Prop :=
 ∃ n1 : Int, (World.cell? w (Addr.mk x0 1 none) = some (Value.int .i64 n1) ∧
 ∃ n2 : Int, (World.cell? w (Addr.mk x0 3 none) = some (Value.int .i64 n2) ∧
 ((8 : Int) ≠ (0 : Int) ∧
 ∃ n3 : Int, (World.cell? w (Addr.mk x0 4 none) = some (Value.int .i64 n3) ∧
 ∀ w4 : World,
 (Drew w w4 →
 R (Value.int .i64 (IntKind.wrap .i64 (IntKind.wrap .i64 (n1 - IntKind.wrap .i64 (Int.tdiv n2 8)) - n3))) w4)))))
theorem vc_bitin_Reader_Used_ok {x0 : Nat} {w : World} {R : Value → World → Prop} {R' : Ending → World → Prop} (h : vc_bitin_Reader_Used x0 w R) (hR : ∀ v w', R v w' → R' (.returned v) w') :
    Calls Tryz.prog 197 #[.pointer (some ⟨x0, 0, none⟩)] w R' :=
  calls_of_body (vs := [(.pointer (some ⟨x0, 0, none⟩), true)]) (ty := ty) (ann := ⟨[], [], [(1, .quiet)], []⟩) (c := Tryz.f197.body.getD .skip) (by kernel_rfl) Tryz.func197 (by kernel_rfl) (by kernel_rfl) (Eq.mp (by kernel_rfl) h) hR
def vc_bitin_Reader_Align (x0 : Nat) (w : World) (R : Value → World → Prop) : Prop :=
 ∃ n1 : Int, (World.cell? w (Addr.mk x0 3 none) = some (Value.int .i64 n1) ∧
 ((8 : Int) ≠ (0 : Int) ∧
 ∃ n2 : Int, (World.cell? w (Addr.mk x0 2 none) = some (Value.int .u64 n2) ∧
 (0 ≤ Int.tmod n1 8 ∧
 (Wr w (Addr.mk x0 2 none) ∧
 ∀ w3 : World,
 (w3 = World.setCell w (Addr.mk x0 2 none) (Value.int .u64 (Int.fdiv n2 (2 ^ min (Int.toNat (Int.tmod n1 8)) 64))) →
 ∃ n4 : Int, (World.cell? w3 (Addr.mk x0 3 none) = some (Value.int .i64 n4) ∧
 (Wr w3 (Addr.mk x0 3 none) ∧
 ∀ w5 : World,
 (w5 = World.setCell w3 (Addr.mk x0 3 none) (Value.int .i64 (IntKind.wrap .i64 (n4 - Int.tmod n1 8))) →
 R (Value.tuple (Array.mk [])) w5)))))))))
theorem vc_bitin_Reader_Align_ok {x0 : Nat} {w : World} {R : Value → World → Prop} {R' : Ending → World → Prop} (h : vc_bitin_Reader_Align x0 w R) (hR : ∀ v w', R v w' → R' (.returned v) w') :
    Calls Tryz.prog 218 #[.pointer (some ⟨x0, 0, none⟩)] w R' :=
  calls_of_body (vs := [(.pointer (some ⟨x0, 0, none⟩), true)]) (ty := ty) (ann := ⟨[], [], [], []⟩) (c := Tryz.f218.body.getD .skip) (by kernel_rfl) Tryz.func218 (by kernel_rfl) (by kernel_rfl) (Eq.mp (by kernel_rfl) h) hR
def vc_bitin_Reader_Bytes (x0 : Nat) (x1 : Int) (w : World) (R : Value → World → Prop) : Prop :=
 Calls Tryz.prog (218 : Nat) (Array.mk [Value.pointer (some (Addr.mk x0 0 none))]) (w) (fun e1 w2 =>
 (e1 = Ending.returned (Value.tuple (Array.mk [])) ∧
 ∃ n3 : Int, (World.cell? w2 (Addr.mk x0 1 none) = some (Value.int .i64 n3) ∧
 ∃ n4 : Int, (World.cell? w2 (Addr.mk x0 3 none) = some (Value.int .i64 n4) ∧
 ((8 : Int) ≠ (0 : Int) ∧
 ∀ w5 : World,
 (Drew w2 w5 →
 (((decide (x1 < 0) = true →
 R (Value.tuple (Array.mk [Value.string (ByteArray.mk (Array.mk [])), Value.bool false])) w5)) ∧
 (decide (x1 < 0) = false →
 ∃ s6 : ByteArray, (World.cell? w5 (Addr.mk x0 0 none) = some (Value.string s6) ∧
 (((decide (x1 > IntKind.wrap .i64 ((↑(ByteArray.size s6) : Int) - IntKind.wrap .i64 (n3 - IntKind.wrap .i64 (Int.tdiv n4 8)))) = true →
 R (Value.tuple (Array.mk [Value.string (ByteArray.mk (Array.mk [])), Value.bool false])) w5)) ∧
 (decide (x1 > IntKind.wrap .i64 ((↑(ByteArray.size s6) : Int) - IntKind.wrap .i64 (n3 - IntKind.wrap .i64 (Int.tdiv n4 8)))) = false →
 (Wr w5 (Addr.mk x0 1 none) ∧
 ∀ w7 : World,
 (w7 = World.setCell w5 (Addr.mk x0 1 none) (Value.int .i64 (IntKind.wrap .i64 (IntKind.wrap .i64 (n3 - IntKind.wrap .i64 (Int.tdiv n4 8)) + x1))) →
 (Wr w7 (Addr.mk x0 2 none) ∧
 ∀ w8 : World,
 (w8 = World.setCell w7 (Addr.mk x0 2 none) (Value.int .u64 0) →
 (Wr w8 (Addr.mk x0 3 none) ∧
 ∀ w9 : World,
 (w9 = World.setCell w8 (Addr.mk x0 3 none) (Value.int .i64 0) →
 ∃ s10 : ByteArray, (World.cell? w9 (Addr.mk x0 0 none) = some (Value.string s10) ∧
 ((0 ≤ IntKind.wrap .i64 (n3 - IntKind.wrap .i64 (Int.tdiv n4 8)) ∧
 (IntKind.wrap .i64 (n3 - IntKind.wrap .i64 (Int.tdiv n4 8)) ≤ IntKind.wrap .i64 (IntKind.wrap .i64 (n3 - IntKind.wrap .i64 (Int.tdiv n4 8)) + x1) ∧
 IntKind.wrap .i64 (IntKind.wrap .i64 (n3 - IntKind.wrap .i64 (Int.tdiv n4 8)) + x1) ≤ (↑(ByteArray.size s10) : Int))) ∧
 R (Value.tuple (Array.mk [Value.string (ByteArray.extract s10 (Int.toNat (IntKind.wrap .i64 (n3 - IntKind.wrap .i64 (Int.tdiv n4 8)))) (Int.toNat (IntKind.wrap .i64 (IntKind.wrap .i64 (n3 - IntKind.wrap .i64 (Int.tdiv n4 8)) + x1)))), Value.bool true])) w9)))))))))))))))))))
theorem vc_bitin_Reader_Bytes_ok {x0 : Nat} {x1 : Int} {w : World} {R : Value → World → Prop} {R' : Ending → World → Prop} (h : vc_bitin_Reader_Bytes x0 x1 w R) (hR : ∀ v w', R v w' → R' (.returned v) w') :
    Calls Tryz.prog 213 #[.pointer (some ⟨x0, 0, none⟩), .int .i64 x1] w R' :=
  calls_of_body (vs := [(.pointer (some ⟨x0, 0, none⟩), true), (.int .i64 x1, false)]) (ty := ty) (ann := ⟨[], [], [(2, .quiet)], []⟩) (c := Tryz.f213.body.getD .skip) (by kernel_rfl) Tryz.func213 (by kernel_rfl) (by kernel_rfl) (Eq.mp (by kernel_rfl) h) hR
end Go.Proofs.YtllegkmadljmaaaGreatDoor

/- What each method of the bit reader does, for every reader that is in order. Conditions: the text is no longer than a Go string can be, the number of bits is from 0 to 32 where it is asked. -/
set_option linter.unusedVariables false
namespace Go.Proofs.YtllegkmadljmaaaGreatDoor
open Go Vc BitsM Go.Proofs

/-- A reader's block. -/
abbrev RdO (s : ByteArray) (at_ pos : Nat) (from_ : Int) : Obj :=
  .cells #[.string s, .int .i64 at_, .int .u64 (held s at_ pos), .int .i64 ((8 * at_ - pos : Nat) : Int), .int .i64 from_] T_bitin_Reader
structure RdAt (w : World) (b : Nat) (s : ByteArray) (pos : Nat) (from_ : Int) (at_ : Nat) : Prop where
  lo : pos ≤ 8 * at_
  hi : 8 * at_ ≤ pos + 39
  sz : at_ ≤ s.size
  ok : s.size ≤ 140737488351232
  blk : w.heap[b]? = some (RdO s at_ pos from_)
section
variable {w w2 : World} {b : Nat} {s : ByteArray} {pos : Nat} {from_ : Int} {at_ : Nat}
theorem RdAt.c0 (h : RdAt w b s pos from_ at_) : w.cell? ⟨b, 0, none⟩ = some (.string s) := by rw [cell_blk h.blk]; rfl
theorem RdAt.c1 (h : RdAt w b s pos from_ at_) : w.cell? ⟨b, 1, none⟩ = some (.int .i64 at_) := by rw [cell_blk h.blk]; rfl
theorem RdAt.c2 (h : RdAt w b s pos from_ at_) : w.cell? ⟨b, 2, none⟩ = some (.int .u64 (held s at_ pos)) := by rw [cell_blk h.blk]; rfl
theorem RdAt.c3 (h : RdAt w b s pos from_ at_) : w.cell? ⟨b, 3, none⟩ = some (.int .i64 ((8 * at_ - pos : Nat) : Int)) := by rw [cell_blk h.blk]; rfl
theorem RdAt.c4 (h : RdAt w b s pos from_ at_) : w.cell? ⟨b, 4, none⟩ = some (.int .i64 from_) := by rw [cell_blk h.blk]; rfl
theorem RdAt.drew (h : RdAt w b s pos from_ at_) (d : Drew w w2) : RdAt w2 b s pos from_ at_ := ⟨h.lo, h.hi, h.sz, h.ok, by rw [d.heap]; exact h.blk⟩
theorem RdAt.held64 (h : RdAt w b s pos from_ at_) : held s at_ pos < 2 ^ 39 :=
  Nat.lt_of_lt_of_le (held_lt s at_ pos h.lo) (Nat.pow_le_pow_right (by decide) (by have := h.hi; omega))
theorem RdAt.keep (h : RdAt w b s pos from_ at_) {X : Nat → Prop} (hf : Fr X w w2) (hx : ¬ X b) : RdAt w2 b s pos from_ at_ := ⟨h.lo, h.hi, h.sz, h.ok, hf.keep h.blk hx⟩
end

def cellNat (w : World) (a : Addr) : Nat := match w.cell? a with
  | some (.int _ n) => n.toNat
  | _ => 0

theorem fill_or {s : ByteArray} {at_ pos : Nat} (hlo : pos ≤ 8 * at_) (hhi : 8 * at_ ≤ pos + 39) :
    IntKind.u64.wrap (↑((BitVec.ofInt 64 ((held s at_ pos : Nat) : Int) ||| BitVec.ofInt 64 (IntKind.u64.wrap (IntKind.u64.wrap ((byt s at_ : Nat) : Int) * 2 ^ min ((8 * at_ - pos : Nat) : Int).toNat 64))).toNat) : Int) = ((held s (at_ + 1) pos : Nat) : Int) := by
  have hb := byt_lt s at_
  have h1 : held s at_ pos < 2 ^ 64 := Nat.lt_of_lt_of_le (held_lt s at_ pos hlo) (Nat.pow_le_pow_right (by decide) (by omega))
  rw [wrap_u64 (x := ((byt s at_ : Nat) : Int)) (by omega) (by omega)]
  have hm : min ((8 * at_ - pos : Nat) : Int).toNat 64 = 8 * at_ - pos := by simp only [Int.toNat_natCast]; omega
  rw [hm]
  have hp : 2 ^ (8 * at_ - pos) ≤ 2 ^ 39 := Nat.pow_le_pow_right (by decide) (by omega)
  have hx : byt s at_ * 2 ^ (8 * at_ - pos) < 2 ^ 64 := by
    have : byt s at_ * 2 ^ (8 * at_ - pos) ≤ 255 * 2 ^ 39 := Nat.mul_le_mul (by omega) hp
    omega
  have hcast : ((byt s at_ : Nat) : Int) * 2 ^ (8 * at_ - pos) = ((byt s at_ * 2 ^ (8 * at_ - pos) : Nat) : Int) := by push_cast; rfl
  rw [hcast, wrap_u64 (x := ((byt s at_ * 2 ^ (8 * at_ - pos) : Nat) : Int)) (by omega) (by omega), or_nat 64 _ _ h1 hx, held_or s at_ pos hlo]
  have := held_lt s (at_ + 1) pos (by omega)
  have h3 : 2 ^ (8 * (at_ + 1) - pos) ≤ 2 ^ 47 := Nat.pow_le_pow_right (by decide) (by omega)
  exact wrap_u64 (by omega) (by omega)

theorem fill_spec {b : Nat} {s : ByteArray} {pos : Nat} {from_ : Int} {at_ : Nat} {w : World} (h : RdAt w b s pos from_ at_) {n : Int} (h0 : 0 ≤ n) (hn : n ≤ 32) :
    Calls Tryz.prog F_bitin_Reader_fill #[.pointer (some ⟨b, 0, none⟩), .int .i64 n] w fun e w' => e = .returned (.tuple #[]) ∧
      ∃ at1, RdAt w' b s pos from_ at1 ∧ (n ≤ ((8 * at1 - pos : Nat) : Int) ∨ at1 = s.size) ∧ Fr (· = b) w w' := by
  refine vc_bitin_Reader_fill_ok (R := fun v w' => v = .tuple #[] ∧ ∃ at1, RdAt w' b s pos from_ at1 ∧ (n ≤ ((8 * at1 - pos : Nat) : Int) ∨ at1 = s.size) ∧ Fr (· = b) w w') ?_ (fun v w' h => ⟨by rw [h.1], h.2⟩)
  refine ⟨fun wr => ∃ at1, RdAt wr b s pos from_ at1 ∧ Fr (· = b) w wr, fun wr => s.size - cellNat wr ⟨b, 1, none⟩, ⟨at_, h, .refl _ _⟩, ?_⟩
  rintro w3 ⟨at1, h1, hf⟩
  refine ⟨_, h1.c3, fun hlt => ⟨_, h1.c1, _, h1.c0, fun w7 d7 => ⟨fun hl2 w8 d8 => ?_, fun hge => ?_⟩⟩, fun hge w18 d => ⟨rfl, at1, h1.drew d, .inl (by simpa using hge), hf.trans' (.drew _ d)⟩⟩
  · have h8 := (h1.drew d7).drew d8
    have hlt' : ((8 * at1 - pos : Nat) : Int) < n := of_decide_eq_true hlt
    have hl2' : at1 < s.size := by have := of_decide_eq_true hl2; omega
    refine ⟨_, h8.c2, _, h8.c0, _, h8.c1, ⟨by omega, by omega⟩, _, h8.c3, by omega, wr_blk h8.blk (by simp), ?_⟩
    rintro w13 rfl
    have e1 := set_blk h8.blk 2 (.int .u64 ((held s (at1 + 1) pos : Nat) : Int))
    rw [byteAt_nat, fill_or (by have := h1.lo; omega) (by have := h1.lo; omega)]
    refine ⟨((at1 : Nat) : Int), by rw [cell_blk e1]; rfl, wr_blk e1 (by simp), ?_⟩
    rintro w15 rfl
    have hat : IntKind.i64.wrap (((at1 : Nat) : Int) + 1) = ((at1 + 1 : Nat) : Int) := by rw [wrap_i64 (by have := h1.ok; omega) (by have := h1.ok; omega)]; omega
    rw [hat]
    have e2 := set_blk e1 1 (.int .i64 ((at1 + 1 : Nat) : Int))
    refine ⟨((8 * at1 - pos : Nat) : Int), by rw [cell_blk e2]; rfl, wr_blk e2 (by simp), ?_⟩
    rintro w17 rfl
    have hh : IntKind.i64.wrap (((8 * at1 - pos : Nat) : Int) + 8) = ((8 * (at1 + 1) - pos : Nat) : Int) := by
      have := h1.lo; rw [wrap_i64 (by omega) (by omega)]; omega
    rw [hh]
    have e3 := set_blk e2 3 (.int .i64 ((8 * (at1 + 1) - pos : Nat) : Int))
    have hrd : RdAt _ b s pos from_ (at1 + 1) := ⟨by have := h1.lo; omega, by have := h1.lo; omega, by omega, h1.ok, e3⟩
    refine ⟨⟨at1 + 1, hrd, ?_⟩, ?_⟩
    · exact ((((hf.trans' (.drew _ d7)).trans' (.drew _ d8)).trans' (.set _ _ _ rfl)).trans' (.set _ _ _ rfl)).trans' (.set _ _ _ rfl)
    · have c1 := hrd.c1
      have c1' := h1.c1
      simp only [cellNat, c1, c1', Int.toNat_natCast]
      omega
  · have : ¬ at1 < s.size := by have := of_decide_eq_false hge; omega
    exact ⟨rfl, at1, h1.drew d7, .inr (by have := h1.sz; omega), hf.trans' (.drew _ d7)⟩

/-- A reader in order, at bit pos. -/
def Rd (w : World) (b : Nat) (s : ByteArray) (pos : Nat) (from_ : Int) : Prop := ∃ at_, RdAt w b s pos from_ at_
theorem Rd.drew {w w2 : World} {b : Nat} {s : ByteArray} {pos : Nat} {from_ : Int} (h : Rd w b s pos from_) (d : Drew w w2) : Rd w2 b s pos from_ := h.imp fun _ h => h.drew d
theorem Rd.keep {w w2 : World} {b : Nat} {s : ByteArray} {pos : Nat} {from_ : Int} (h : Rd w b s pos from_) {X : Nat → Prop} (hf : Fr X w w2) (hx : ¬ X b) : Rd w2 b s pos from_ := h.imp fun _ h => h.keep hf hx
theorem Rd.pos_le {w : World} {b : Nat} {s : ByteArray} {pos : Nat} {from_ : Int} (h : Rd w b s pos from_) : pos ≤ 8 * s.size := by
  obtain ⟨a, h⟩ := h; have := h.lo; have := h.sz; omega
theorem Rd.lt {w : World} {b : Nat} {s : ByteArray} {pos : Nat} {from_ : Int} (h : Rd w b s pos from_) : b < w.heap.size := by obtain ⟨a, h⟩ := h; exact lt_blk h.blk

/-- How many bits are left. -/
def left (s : ByteArray) (pos : Nat) : Nat := 8 * s.size - pos

theorem left_spec {b : Nat} {s : ByteArray} {pos : Nat} {from_ : Int} {w : World} (h : Rd w b s pos from_) :
    Calls Tryz.prog F_bitin_Reader_Left #[.pointer (some ⟨b, 0, none⟩)] w fun e w' => e = .returned (.int .i64 ((left s pos : Nat) : Int)) ∧ Drew w w' := by
  obtain ⟨a, h⟩ := h
  refine vc_bitin_Reader_Left_ok (R := fun v w' => v = .int .i64 ((left s pos : Nat) : Int) ∧ Drew w w') ?_ (fun v w' h => ⟨by rw [h.1], h.2⟩)
  refine ⟨_, h.c0, _, h.c1, _, h.c3, fun w1 d => ⟨?_, d⟩⟩
  have := h.lo; have := h.hi; have := h.sz; have := h.ok
  have e1 : IntKind.i64.wrap ((s.size : Int) - (a : Int)) = (s.size : Int) - (a : Int) := wrap_i64 (by omega) (by omega)
  rw [e1]
  have e2 : IntKind.i64.wrap (8 * ((s.size : Int) - (a : Int))) = 8 * ((s.size : Int) - (a : Int)) := wrap_i64 (by omega) (by omega)
  rw [e2, wrap_i64 (by omega) (by omega)]
  unfold left
  congr 1; omega

/-- How many bytes have been begun. -/
theorem used_spec {b : Nat} {s : ByteArray} {pos : Nat} {from_ : Int} {w : World} (h : Rd w b s pos from_) (h0 : 0 ≤ from_) (h1 : from_ ≤ 140737488351232) :
    Calls Tryz.prog F_bitin_Reader_Used #[.pointer (some ⟨b, 0, none⟩)] w fun e w' => e = .returned (.int .i64 ((((pos + 7) / 8 : Nat) : Int) - from_)) ∧ Drew w w' := by
  obtain ⟨a, h⟩ := h
  refine vc_bitin_Reader_Used_ok (R := fun v w' => v = .int .i64 ((((pos + 7) / 8 : Nat) : Int) - from_) ∧ Drew w w') ?_ (fun v w' h => ⟨by rw [h.1], h.2⟩)
  refine ⟨_, h.c1, _, h.c3, by decide, _, h.c4, fun w1 d => ⟨?_, d⟩⟩
  have := h.lo; have := h.hi; have := h.sz; have := h.ok
  have e0 : Int.tdiv ((8 * a - pos : Nat) : Int) 8 = ((((8 * a - pos) / 8 : Nat)) : Int) := by
    rw [Int.tdiv_eq_ediv_of_nonneg (by omega)]; omega
  rw [e0, wrap_i64 (x := (((8 * a - pos) / 8 : Nat) : Int)) (by omega) (by omega), wrap_i64 (x := (a : Int) - _) (by omega) (by omega), wrap_i64 (by omega) (by omega)]
  congr 1; omega

theorem mask_eq (n : Nat) (h : n ≤ 32) : IntKind.u64.wrap (IntKind.u64.wrap (1 * 2 ^ min ((n : Int)).toNat 64) - 1) = ((2 ^ n - 1 : Nat) : Int) := by
  have hm : min ((n : Int)).toNat 64 = n := by omega
  have hp : 2 ^ n ≤ 2 ^ 32 := Nat.pow_le_pow_right (by decide) h
  have h1 := Nat.two_pow_pos n
  have hc : (2 : Int) ^ n = ((2 ^ n : Nat) : Int) := by push_cast; rfl
  rw [hm, Int.one_mul, hc, wrap_u64 (x := ((2 ^ n : Nat) : Int)) (by omega) (by omega), wrap_u64 (by omega) (by omega)]
  omega

/-- The next n bits: what they are, and how many there are. -/
theorem peek_spec {b : Nat} {s : ByteArray} {pos : Nat} {from_ : Int} {w : World} (h : Rd w b s pos from_) {n : Nat} (hn : n ≤ 32) :
    Calls Tryz.prog F_bitin_Reader_Peek #[.pointer (some ⟨b, 0, none⟩), .int .i64 n] w fun e w' =>
      e = .returned (.tuple #[.int .u32 ((nbits s pos n : Nat) : Int), .int .i64 ((min n (left s pos) : Nat) : Int)]) ∧ Rd w' b s pos from_ ∧ Fr (· = b) w w' := by
  obtain ⟨a, h⟩ := h
  refine vc_bitin_Reader_Peek_ok (R := fun v w' => v = .tuple #[.int .u32 ((nbits s pos n : Nat) : Int), .int .i64 ((min n (left s pos) : Nat) : Int)] ∧ Rd w' b s pos from_ ∧ Fr (· = b) w w') ?_ (fun v w' h => ⟨by rw [h.1], h.2⟩)
  refine ⟨fun hlt => absurd (of_decide_eq_true hlt) (by omega), fun _ => ⟨fun hgt => absurd (of_decide_eq_true hgt) (by omega), fun _ => ?_⟩⟩
  refine (fill_spec h (by omega) (by omega)).mono ?_
  rintro e w2 ⟨rfl, a1, h1, hc, hf⟩
  refine ⟨rfl, _, h1.c2, by omega, _, h1.c3, fun w5 d => ⟨?_, ⟨a1, h1.drew d⟩, hf.trans' (.drew _ d)⟩⟩
  have := h1.lo; have := h1.hi; have := h1.sz
  have hk := h1.held64
  have hp : 2 ^ n ≤ 2 ^ 32 := Nat.pow_le_pow_right (by decide) hn
  have hb : held s a1 pos % 2 ^ n = nbits s pos n := held_bits s a1 pos n h1.sz (by omega)
  have hl : nbits s pos n < 2 ^ n := Nat.mod_lt _ (Nat.two_pow_pos n)
  rw [mask_eq n hn, and_nat 64 _ _ (by omega) (by omega), and_mask, hb, wrap_u64 (x := ((nbits s pos n : Nat) : Int)) (by omega) (by omega), wrap_u32 (by omega) (by omega)]
  unfold left
  congr 5
  split <;> omega

/-- n bits are taken, if there are so many. -/
theorem skip_spec {b : Nat} {s : ByteArray} {pos : Nat} {from_ : Int} {w : World} (h : Rd w b s pos from_) {n : Nat} (hn : n ≤ 32) :
    Calls Tryz.prog F_bitin_Reader_Skip #[.pointer (some ⟨b, 0, none⟩), .int .i64 n] w fun e w' =>
      e = .returned (.bool (decide (n ≤ left s pos))) ∧ Rd w' b s (if n ≤ left s pos then pos + n else pos) from_ ∧ Fr (· = b) w w' := by
  obtain ⟨a, h⟩ := h
  refine vc_bitin_Reader_Skip_ok (R := fun v w' => v = .bool (decide (n ≤ left s pos)) ∧ Rd w' b s (if n ≤ left s pos then pos + n else pos) from_ ∧ Fr (· = b) w w') ?_ (fun v w' h => ⟨by rw [h.1], h.2⟩)
  refine ⟨fun hlt => absurd (of_decide_eq_true hlt) (by omega), fun _ => ⟨fun hgt => absurd (of_decide_eq_true hgt) (by omega), fun _ => ?_⟩⟩
  refine (fill_spec h (by omega) (by omega)).mono ?_
  rintro e w2 ⟨rfl, a1, h1, hc, hf⟩
  have := h1.lo; have := h1.hi; have := h1.sz
  refine ⟨rfl, _, h1.c3, fun hlt => ?_, fun hge => ?_⟩
  · have hlt := of_decide_eq_true hlt
    have hno : ¬ n ≤ left s pos := by unfold left; omega
    rw [if_neg hno, decide_eq_false hno]
    exact ⟨rfl, ⟨a1, h1⟩, hf⟩
  · have hge := of_decide_eq_false hge
    have hyes : n ≤ left s pos := by unfold left; omega
    rw [if_pos hyes, decide_eq_true hyes]
    refine ⟨_, h1.c2, by omega, wr_blk h1.blk (by simp), ?_⟩
    rintro w5 rfl
    have e0 : Int.fdiv ((held s a1 pos : Nat) : Int) (2 ^ min ((n : Int)).toNat 64) = ((held s a1 (pos + n) : Nat) : Int) := by
      have hm : min ((n : Int)).toNat 64 = n := by omega
      have hc : (2 : Int) ^ n = ((2 ^ n : Nat) : Int) := by push_cast; rfl
      rw [hm, hc, ← held_skip, Int.fdiv_eq_ediv_of_nonneg _ (Int.natCast_nonneg _), ← Int.natCast_ediv]
    rw [e0]
    have b1 := set_blk h1.blk 2 (.int .u64 ((held s a1 (pos + n) : Nat) : Int))
    refine ⟨((8 * a1 - pos : Nat) : Int), by rw [cell_blk b1]; rfl, wr_blk b1 (by simp), ?_⟩
    rintro w7 rfl
    have e1 : IntKind.i64.wrap (((8 * a1 - pos : Nat) : Int) - (n : Int)) = ((8 * a1 - (pos + n) : Nat) : Int) := by rw [wrap_i64 (by omega) (by omega)]; omega
    rw [e1]
    have b2 := set_blk b1 3 (.int .i64 ((8 * a1 - (pos + n) : Nat) : Int))
    exact ⟨rfl, ⟨a1, by omega, by omega, h1.sz, h1.ok, b2⟩, (hf.trans' (.set _ _ _ rfl)).trans' (.set _ _ _ rfl)⟩

/-- The next n bits are taken, if there are so many. -/
theorem rbits_spec {b : Nat} {s : ByteArray} {pos : Nat} {from_ : Int} {w : World} (h : Rd w b s pos from_) {n : Nat} (hn : n ≤ 32) :
    Calls Tryz.prog F_bitin_Reader_Bits #[.pointer (some ⟨b, 0, none⟩), .int .i64 n] w fun e w' =>
      e = .returned (.tuple #[.int .u32 ((if n ≤ left s pos then nbits s pos n else 0 : Nat) : Int), .bool (decide (n ≤ left s pos))]) ∧
      Rd w' b s (if n ≤ left s pos then pos + n else pos) from_ ∧ Fr (· = b) w w' := by
  refine vc_bitin_Reader_Bits_ok (R := fun v w' => v = .tuple #[.int .u32 ((if n ≤ left s pos then nbits s pos n else 0 : Nat) : Int), .bool (decide (n ≤ left s pos))] ∧
      Rd w' b s (if n ≤ left s pos then pos + n else pos) from_ ∧ Fr (· = b) w w') ?_ (fun v w' h => ⟨by rw [h.1], h.2⟩)
  refine (peek_spec h hn).mono ?_
  rintro e w2 ⟨rfl, h2, f2⟩
  refine ⟨_, _, rfl, ?_⟩
  refine (skip_spec h2 hn).mono ?_
  rintro e w6 ⟨rfl, h6, f6⟩
  refine ⟨_, rfl, fun hno => ?_, fun hyes => ?_⟩
  · have hno : ¬ n ≤ left s pos := by simpa using hno
    rw [if_neg hno] at h6
    rw [if_neg hno, if_neg hno, decide_eq_false hno]
    exact ⟨rfl, h6, f2.trans' f6⟩
  · have hyes : n ≤ left s pos := by simpa using hyes
    rw [if_pos hyes] at h6
    rw [if_pos hyes, if_pos hyes, decide_eq_true hyes]
    exact ⟨rfl, h6, f2.trans' f6⟩

/-- A new reader. -/
theorem rnew_spec {s : ByteArray} (hs : s.size ≤ 140737488351232) (n : Int) (w : World) :
    Calls Tryz.prog F_bitin_New #[.string s, .int .i64 n] w fun e w' =>
      e = .returned (.pointer (some ⟨w.heap.size, 0, none⟩)) ∧ Rd w' w.heap.size s (8 * min n.toNat s.size) ((min n.toNat s.size : Nat) : Int) ∧ Fr (fun _ => False) w w' := by
  refine vc_bitin_New_ok (R := fun v w' => v = .pointer (some ⟨w.heap.size, 0, none⟩) ∧ Rd w' w.heap.size s (8 * min n.toNat s.size) ((min n.toNat s.size : Nat) : Int) ∧ Fr (fun _ => False) w w') ?_ (fun v w' h => ⟨by rw [h.1], h.2⟩)
  rintro w1 rfl
  refine ⟨rfl, ⟨min n.toNat s.size, by omega, by omega, by omega, hs, ?_⟩, .alloc _ _ _⟩
  rw [alloc_new]
  have e : (if (if (s.size : Int) < n then (s.size : Int) else n) > 0 then if (s.size : Int) < n then (s.size : Int) else n else 0) = ((min n.toNat s.size : Nat) : Int) := by
    split <;> split at * <;> omega
  have e2 : held s (min n.toNat s.size) (8 * min n.toNat s.size) = 0 := Nat.div_eq_of_lt (V_lt s _)
  rw [e, RdO, e2]
  simp
end Go.Proofs.YtllegkmadljmaaaGreatDoor

/- Formulas of 2 Go functions of this seat (written by a program of the author's, vcgen.py), and that each is enough for the call. No condition. -/
set_option linter.unusedVariables false
namespace Go.Proofs.YtllegkmadljmaaaGreatDoor
open Go Vc Go.Proofs
set_option maxRecDepth 100000
def vc_huff_New (x0a : Option Addr) (x0n : Nat) (x0c : Nat) (w : World) (R : Value → World → Prop) : Prop :=
 (((decide ((↑x0n : Int) > 320) = true →
 R (Value.tuple (Array.mk [Value.pointer none, Value.int .i64 2])) w)) ∧
 (decide ((↑x0n : Int) > 320) = false →
 ∃ w1 : World, ∃ l2 : Sl, (Sem.run Tryz.prog (Builtin.append_ (Array.mk [209, 209]) 209 (Array.mk [Value.slice none 0 0, Value.slice x0a x0n x0c])) w = Result.ok (Value.slice l2.1 l2.2 l2.3) w1 ∧
 ∀ w3 : World,
 (w3 = World.alloc w1 (Obj.cells (Array.mk [Value.slice l2.1 l2.2 l2.3, Value.int .i64 0, Value.int .i64 0, Value.int .i64 0, Value.int .i64 0, Value.int .i64 0, Value.int .i64 0, Value.int .i64 0, Value.int .i64 0, Value.int .i64 0, Value.int .i64 0, Value.int .i64 0, Value.int .i64 0, Value.int .i64 0, Value.int .i64 0, Value.int .i64 0, Value.int .i64 0, Value.slice none 0 0]) 215) →
 ∃ I4 : Int → World → Prop, ∃ I5 : Int → World → Nat, (I4 0 w3 ∧
 ∀ n6 : Int,
 ∀ w7 : World,
 (I4 n6 w7 →
 (((decide (n6 < (↑x0n : Int)) = true →
 ((0 ≤ n6 ∧
 n6 < (↑x0n : Int)) ∧
 ∃ a8 : Addr, (x0a = some a8 ∧
 ∃ n9 : Int, (World.cell? w7 (Addr.add a8 (Int.toNat n6 * 1)) = some (Value.int .i64 n9) ∧
 (((decide (n9 < 0) = true →
 R (Value.tuple (Array.mk [Value.pointer none, Value.int .i64 1])) w7)) ∧
 (decide (n9 < 0) = false →
 (((decide (n9 > 15) = true →
 R (Value.tuple (Array.mk [Value.pointer none, Value.int .i64 1])) w7)) ∧
 (decide (n9 > 15) = false →
 ∀ w10 : World,
 (Drew w7 w10 →
 ((0 ≤ n9 ∧
 n9 < (↑16 : Int)) ∧
 ∃ n11 : Int, (World.cell? w10 (Addr.add (Addr.mk (Array.size (World.heap w1)) 1 none) (Int.toNat n9 * 1)) = some (Value.int .i64 n11) ∧
 ((0 ≤ n9 ∧
 n9 < (↑16 : Int)) ∧
 (Wr w10 (Addr.add (Addr.mk (Array.size (World.heap w1)) 1 none) (Int.toNat n9 * 1)) ∧
 ∀ w12 : World,
 (w12 = World.setCell w10 (Addr.add (Addr.mk (Array.size (World.heap w1)) 1 none) (Int.toNat n9 * 1)) (Value.int .i64 (IntKind.wrap .i64 (n11 + 1))) →
 (I4 (IntKind.wrap .i64 (n6 + 1)) w12 ∧
 I5 (IntKind.wrap .i64 (n6 + 1)) w12 < I5 n6 w7)))))))))))))))) ∧
 (decide (n6 < (↑x0n : Int)) = false →
 ∃ I13 : Int → Int → Int → World → Prop, ∃ I14 : Int → Int → Int → World → Nat, (I13 1 0 1 w7 ∧
 ∀ n15 : Int,
 ∀ n16 : Int,
 ∀ n17 : Int,
 ∀ w18 : World,
 (I13 n15 n16 n17 w18 →
 (((decide (n17 ≤ 15) = true →
 ((0 ≤ n17 ∧
 n17 < (↑16 : Int)) ∧
 ∃ n19 : Int, (World.cell? w18 (Addr.add (Addr.mk (Array.size (World.heap w1)) 1 none) (Int.toNat n17 * 1)) = some (Value.int .i64 n19) ∧
 ((0 ≤ n17 ∧
 n17 < (↑16 : Int)) ∧
 ∃ n20 : Int, (World.cell? w18 (Addr.add (Addr.mk (Array.size (World.heap w1)) 1 none) (Int.toNat n17 * 1)) = some (Value.int .i64 n20) ∧
 (((decide (IntKind.wrap .i64 (IntKind.wrap .i64 (2 * n15) - n19) < 0) = true →
 R (Value.tuple (Array.mk [Value.pointer none, Value.int .i64 4])) w18)) ∧
 (decide (IntKind.wrap .i64 (IntKind.wrap .i64 (2 * n15) - n19) < 0) = false →
 ∃ I21 : Int → World → Prop, ∃ I22 : Int → World → Nat, (I21 0 w18 ∧
 ∀ n23 : Int,
 ∀ w24 : World,
 (I21 n23 w24 →
 (((decide (n23 < (↑x0n : Int)) = true →
 ((0 ≤ n23 ∧
 n23 < (↑x0n : Int)) ∧
 ∃ a25 : Addr, (x0a = some a25 ∧
 ∃ n26 : Int, (World.cell? w24 (Addr.add a25 (Int.toNat n23 * 1)) = some (Value.int .i64 n26) ∧
 ((((n26 == n17) = true →
 ∃ l27 : Sl, (World.cell? w24 (Addr.mk (Array.size (World.heap w1)) 17 none) = some (Value.slice l27.1 l27.2 l27.3) ∧
 ∀ w28 : World,
 (w28 = World.alloc w24 (Obj.cells (Array.mk [Value.int .i64 n23]) 3) →
 ∃ w29 : World, ∃ l30 : Sl, (Sem.run Tryz.prog (Builtin.append_ (Array.mk [209, 209]) 209 (Array.mk [Value.slice l27.1 l27.2 l27.3, Value.slice (some (Addr.mk (Array.size (World.heap w24)) 0 none)) 1 1])) w28 = Result.ok (Value.slice l30.1 l30.2 l30.3) w29 ∧
 (Wr w29 (Addr.mk (Array.size (World.heap w1)) 17 none) ∧
 ∀ w31 : World,
 (w31 = World.setCell w29 (Addr.mk (Array.size (World.heap w1)) 17 none) (Value.slice l30.1 l30.2 l30.3) →
 (I21 (IntKind.wrap .i64 (n23 + 1)) w31 ∧
 I22 (IntKind.wrap .i64 (n23 + 1)) w31 < I22 n23 w24)))))))) ∧
 ((n26 == n17) = false →
 (I21 (IntKind.wrap .i64 (n23 + 1)) w24 ∧
 I22 (IntKind.wrap .i64 (n23 + 1)) w24 < I22 n23 w24)))))))) ∧
 (decide (n23 < (↑x0n : Int)) = false →
 (I13 (IntKind.wrap .i64 (IntKind.wrap .i64 (2 * n15) - n19)) (IntKind.wrap .i64 (n16 + n20)) (IntKind.wrap .i64 (n17 + 1)) w24 ∧
 I14 (IntKind.wrap .i64 (IntKind.wrap .i64 (2 * n15) - n19)) (IntKind.wrap .i64 (n16 + n20)) (IntKind.wrap .i64 (n17 + 1)) w24 < I14 n15 n16 n17 w18))))))))))))) ∧
 (decide (n17 ≤ 15) = false →
 (((decide (n15 > 0) = true →
 (((decide (n16 > 0) = true →
 ((((n16 == 1) = true →
 (((0 : Int) ≤ (1 : Int) ∧
 (1 : Int) < (↑(16 : Nat) : Int)) ∧
 ∃ n32 : Int, (World.cell? w18 (Addr.add (Addr.mk (Array.size (World.heap w1)) 1 none) (Int.toNat 1 * 1)) = some (Value.int .i64 n32) ∧
 ((((!n32 == 1) = true →
 R (Value.tuple (Array.mk [Value.pointer none, Value.int .i64 4])) w18)) ∧
 ((!n32 == 1) = false →
 R (Value.tuple (Array.mk [Value.pointer (some (Addr.mk (Array.size (World.heap w1)) 0 none)), Value.int .i64 0])) w18)))))) ∧
 ((n16 == 1) = false →
 R (Value.tuple (Array.mk [Value.pointer none, Value.int .i64 4])) w18)))) ∧
 (decide (n16 > 0) = false →
 R (Value.tuple (Array.mk [Value.pointer (some (Addr.mk (Array.size (World.heap w1)) 0 none)), Value.int .i64 0])) w18)))) ∧
 (decide (n15 > 0) = false →
 R (Value.tuple (Array.mk [Value.pointer (some (Addr.mk (Array.size (World.heap w1)) 0 none)), Value.int .i64 0])) w18))))))))))))))
theorem vc_huff_New_ok {x0a : Option Addr} {x0n : Nat} {x0c : Nat} {w : World} {R : Value → World → Prop} {R' : Ending → World → Prop} (h : vc_huff_New x0a x0n x0c w R) (hR : ∀ v w', R v w' → R' (.returned v) w') :
    Calls Tryz.prog 147 #[.slice x0a x0n x0c] w R' :=
  calls_of_body (vs := [(.slice x0a x0n x0c, false)]) (ty := ty) (ann := ⟨[], [(5, [(21, .int .i64)]), (13, [(7, .int .i64), (8, .int .i64), (9, .int .i64)]), (20, [(67, .int .i64)])], [(9, .tail 10)], []⟩) (c := Tryz.f147.body.getD .skip) (by kernel_rfl) Tryz.func147 (by kernel_rfl) (by kernel_rfl) (Eq.mp (by kernel_rfl) h) hR
def vc_huff_Table_Read (x0 : Nat) (x1 : Nat) (w : World) (R : Value → World → Prop) : Prop :=
 ∃ l1 : Sl, (World.cell? w (Addr.mk x0 17 none) = some (Value.slice l1.1 l1.2 l1.3) ∧
 (((((↑l1.2 : Int) == 0) = true →
 R (Value.tuple (Array.mk [Value.int .i64 0, Value.int .i64 3])) w)) ∧
 (((↑l1.2 : Int) == 0) = false →
 ∃ I2 : Int → Int → Int → Int → World → Prop, ∃ I3 : Int → Int → Int → Int → World → Nat, (I2 0 0 0 1 w ∧
 ∀ n4 : Int,
 ∀ n5 : Int,
 ∀ n6 : Int,
 ∀ n7 : Int,
 ∀ w8 : World,
 (I2 n4 n5 n6 n7 w8 →
 (((decide (n7 ≤ 15) = true →
 Calls Tryz.prog (203 : Nat) (Array.mk [Value.pointer (some (Addr.mk x1 0 none)), Value.int .i64 1]) (w8) (fun e9 w10 =>
 ∃ n11 : Int, ∃ b12 : Bool, (e9 = Ending.returned (Value.tuple (Array.mk [Value.int .u32 n11, Value.bool b12])) ∧
 ((((!b12) = true →
 R (Value.tuple (Array.mk [Value.int .i64 0, Value.int .i64 6])) w10)) ∧
 ((!b12) = false →
 ((0 : Int) ≤ (1 : Int) ∧
 ((0 ≤ n7 ∧
 n7 < (↑16 : Int)) ∧
 ∃ n13 : Int, (World.cell? w10 (Addr.add (Addr.mk x0 1 none) (Int.toNat n7 * 1)) = some (Value.int .i64 n13) ∧
 (((decide (IntKind.wrap .i64 (IntKind.wrap .i64 (↑(BitVec.toNat (BitVec.ofInt 64 (IntKind.wrap .i64 (n4 * 2 ^ min (Int.toNat 1) 64)) ||| BitVec.ofInt 64 (IntKind.wrap .i64 n11))) : Int) - n5) < n13) = true →
 ∃ l14 : Sl, (World.cell? w10 (Addr.mk x0 17 none) = some (Value.slice l14.1 l14.2 l14.3) ∧
 ((0 ≤ IntKind.wrap .i64 (n6 + IntKind.wrap .i64 (IntKind.wrap .i64 (↑(BitVec.toNat (BitVec.ofInt 64 (IntKind.wrap .i64 (n4 * 2 ^ min (Int.toNat 1) 64)) ||| BitVec.ofInt 64 (IntKind.wrap .i64 n11))) : Int) - n5)) ∧
 IntKind.wrap .i64 (n6 + IntKind.wrap .i64 (IntKind.wrap .i64 (↑(BitVec.toNat (BitVec.ofInt 64 (IntKind.wrap .i64 (n4 * 2 ^ min (Int.toNat 1) 64)) ||| BitVec.ofInt 64 (IntKind.wrap .i64 n11))) : Int) - n5)) < (↑l14.2 : Int)) ∧
 ∃ a15 : Addr, (l14.1 = some a15 ∧
 ∃ n16 : Int, (World.cell? w10 (Addr.add a15 (Int.toNat (IntKind.wrap .i64 (n6 + IntKind.wrap .i64 (IntKind.wrap .i64 (↑(BitVec.toNat (BitVec.ofInt 64 (IntKind.wrap .i64 (n4 * 2 ^ min (Int.toNat 1) 64)) ||| BitVec.ofInt 64 (IntKind.wrap .i64 n11))) : Int) - n5))) * 1)) = some (Value.int .i64 n16) ∧
 R (Value.tuple (Array.mk [Value.int .i64 n16, Value.int .i64 0])) w10)))))) ∧
 (decide (IntKind.wrap .i64 (IntKind.wrap .i64 (↑(BitVec.toNat (BitVec.ofInt 64 (IntKind.wrap .i64 (n4 * 2 ^ min (Int.toNat 1) 64)) ||| BitVec.ofInt 64 (IntKind.wrap .i64 n11))) : Int) - n5) < n13) = false →
 ((0 ≤ n7 ∧
 n7 < (↑16 : Int)) ∧
 ∃ n17 : Int, (World.cell? w10 (Addr.add (Addr.mk x0 1 none) (Int.toNat n7 * 1)) = some (Value.int .i64 n17) ∧
 ((0 ≤ n7 ∧
 n7 < (↑16 : Int)) ∧
 ∃ n18 : Int, (World.cell? w10 (Addr.add (Addr.mk x0 1 none) (Int.toNat n7 * 1)) = some (Value.int .i64 n18) ∧
 ((0 : Int) ≤ (1 : Int) ∧
 ∃ l19 : Sl, (World.cell? w10 (Addr.mk x0 17 none) = some (Value.slice l19.1 l19.2 l19.3) ∧
 ((((IntKind.wrap .i64 (n6 + n17) == (↑l19.2 : Int)) = true →
 R (Value.tuple (Array.mk [Value.int .i64 0, Value.int .i64 3])) w10)) ∧
 ((IntKind.wrap .i64 (n6 + n17) == (↑l19.2 : Int)) = false →
 (I2 (IntKind.wrap .i64 (↑(BitVec.toNat (BitVec.ofInt 64 (IntKind.wrap .i64 (n4 * 2 ^ min (Int.toNat 1) 64)) ||| BitVec.ofInt 64 (IntKind.wrap .i64 n11))) : Int)) (IntKind.wrap .i64 (IntKind.wrap .i64 (n5 + n18) * 2 ^ min (Int.toNat 1) 64)) (IntKind.wrap .i64 (n6 + n17)) (IntKind.wrap .i64 (n7 + 1)) w10 ∧
 I3 (IntKind.wrap .i64 (↑(BitVec.toNat (BitVec.ofInt 64 (IntKind.wrap .i64 (n4 * 2 ^ min (Int.toNat 1) 64)) ||| BitVec.ofInt 64 (IntKind.wrap .i64 n11))) : Int)) (IntKind.wrap .i64 (IntKind.wrap .i64 (n5 + n18) * 2 ^ min (Int.toNat 1) 64)) (IntKind.wrap .i64 (n6 + n17)) (IntKind.wrap .i64 (n7 + 1)) w10 < I3 n4 n5 n6 n7 w8)))))))))))))))))))) ∧
 (decide (n7 ≤ 15) = false →
 R (Value.tuple (Array.mk [Value.int .i64 0, Value.int .i64 3])) w8)))))))
theorem vc_huff_Table_Read_ok {x0 : Nat} {x1 : Nat} {w : World} {R : Value → World → Prop} {R' : Ending → World → Prop} (h : vc_huff_Table_Read x0 x1 w R) (hR : ∀ v w', R v w' → R' (.returned v) w') :
    Calls Tryz.prog 206 #[.pointer (some ⟨x0, 0, none⟩), .pointer (some ⟨x1, 0, none⟩)] w R' :=
  calls_of_body (vs := [(.pointer (some ⟨x0, 0, none⟩), true), (.pointer (some ⟨x1, 0, none⟩), true)]) (ty := ty) (ann := ⟨[], [(5, [(6, .int .i64), (7, .int .i64), (8, .int .i64), (9, .int .i64)])], [], []⟩) (c := Tryz.f206.body.getD .skip) (by kernel_rfl) Tryz.func206 (by kernel_rfl) (by kernel_rfl) (Eq.mp (by kernel_rfl) h) hR
end Go.Proofs.YtllegkmadljmaaaGreatDoor

/- What New, Code and Read of the package huff do. Conditions: the lists are short enough for a slice to hold; a table and a reader are in order. -/
set_option linter.unusedVariables false
namespace Go.Proofs.YtllegkmadljmaaaGreatDoor
open Go Vc BitsM HuffM Go.Proofs

theorem elInt : El Tryz.prog T_S_int T_int (.int .i64 0) 8 := ⟨by kernel_rfl, by kernel_rfl, rfl⟩
abbrev iv (l : List Int) : List Value := l.map (Value.int .i64)
abbrev nv (l : List Nat) : List Value := l.map (fun x : Nat => Value.int .i64 (x : Int))
theorem one_iv (l : List Int) : ∀ u ∈ iv l, u.oneCell' = true := fun u h => by
  obtain ⟨b, _, rfl⟩ := List.mem_map.1 h; rfl

/-- A table's cells. -/
def tcells (l1 : Sl) (c : Nat → Nat) (l2 : Sl) : Array Value :=
  #[.slice l1.a l1.len l1.cap, .int .i64 (c 0), .int .i64 (c 1), .int .i64 (c 2), .int .i64 (c 3), .int .i64 (c 4), .int .i64 (c 5), .int .i64 (c 6), .int .i64 (c 7),
    .int .i64 (c 8), .int .i64 (c 9), .int .i64 (c 10), .int .i64 (c 11), .int .i64 (c 12), .int .i64 (c 13), .int .i64 (c 14), .int .i64 (c 15), .slice l2.a l2.len l2.cap]
theorem tcells_get (l1 : Sl) (c : Nat → Nat) (l2 : Sl) : ∀ n, n < 16 → (tcells l1 c l2)[1 + n]? = some (.int .i64 (c n)) := by
  intro n h
  match n, h with
  | 0, _ | 1, _ | 2, _ | 3, _ | 4, _ | 5, _ | 6, _ | 7, _ | 8, _ | 9, _ | 10, _ | 11, _ | 12, _ | 13, _ | 14, _ | 15, _ => rfl
  | n + 16, h => omega
theorem tcells_set (l1 : Sl) (c : Nat → Nat) (l2 : Sl) (x : Nat) : ∀ n, n < 16 → (tcells l1 c l2).setIfInBounds (1 + n) (.int .i64 x) = tcells l1 (fun m => if m = n then x else c m) l2 := by
  intro n h
  match n, h with
  | 0, _ | 1, _ | 2, _ | 3, _ | 4, _ | 5, _ | 6, _ | 7, _ | 8, _ | 9, _ | 10, _ | 11, _ | 12, _ | 13, _ | 14, _ | 15, _ => rfl
  | n + 16, h => omega
theorem tcells_congr (l1 : Sl) {c d : Nat → Nat} (l2 : Sl) (h : ∀ n, n < 16 → c n = d n) : tcells l1 c l2 = tcells l1 d l2 := by
  simp only [tcells, h 0 (by decide), h 1 (by decide), h 2 (by decide), h 3 (by decide), h 4 (by decide), h 5 (by decide), h 6 (by decide), h 7 (by decide), h 8 (by decide), h 9 (by decide), h 10 (by decide), h 11 (by decide),
    h 12 (by decide), h 13 (by decide), h 14 (by decide), h 15 (by decide)]

/-- A table that is being made. -/
structure TabW (w : World) (lo b : Nat) (l1 : Sl) (zs : List Int) (c : Nat → Nat) (xs : List Nat) (l2 : Sl) : Prop where
  hlo : lo ≤ b
  blk : w.heap[b]? = some (.cells (tcells l1 c l2) T_huff_Table)
  o1 : Vc.Own w lo T_int l1 (iv zs)
  b1 : ∀ x, l1.a = some x → x.block < b
  o2 : Vc.Own w (b + 1) T_int l2 (nv xs)
section
variable {w w2 : World} {lo b : Nat} {l1 : Sl} {zs : List Int} {c : Nat → Nat} {xs : List Nat} {l2 : Sl}
theorem TabW.cnt (h : TabW w lo b l1 zs c xs l2) {n : Nat} (hn : n < 16) : w.cell? (Addr.add ⟨b, 1, none⟩ (n * 1)) = some (.int .i64 (c n)) := by
  rw [add_lit, cell_blk h.blk, Nat.mul_one, tcells_get _ _ _ n hn]
theorem TabW.c0 (h : TabW w lo b l1 zs c xs l2) : w.cell? ⟨b, 0, none⟩ = some (.slice l1.a l1.len l1.cap) := by rw [cell_blk h.blk]; rfl
theorem TabW.c17 (h : TabW w lo b l1 zs c xs l2) : w.cell? ⟨b, 17, none⟩ = some (.slice l2.a l2.len l2.cap) := by rw [cell_blk h.blk]; rfl
theorem TabW.keep (h : TabW w lo b l1 zs c xs l2) {X : Nat → Prop} (hf : Fr X w w2) (hx : ∀ k, lo ≤ k → k < w.heap.size → ¬ X k) : TabW w2 lo b l1 zs c xs l2 :=
  ⟨h.hlo, hf.keep h.blk (hx b h.hlo (lt_blk h.blk)), h.o1.keep hf (fun x hxx => hx _ (h.o1.blk hxx).1 (h.o1.blk hxx).2), h.b1, h.o2.keep hf (fun x hxx => hx _ (by have := (h.o2.blk hxx).1; have := h.hlo; omega) (h.o2.blk hxx).2)⟩
theorem TabW.keep2 (ht : TabW w lo b l1 zs c xs l2) {hi : Nat} (hb : b < hi) (h2 : ∀ x, l2.a = some x → x.block < hi) {X : Nat → Prop} (hf : Fr X w w2) (hx : ∀ k, lo ≤ k → k < hi → ¬ X k) : TabW w2 lo b l1 zs c xs l2 :=
  ⟨ht.hlo, hf.keep ht.blk (hx b ht.hlo hb), ht.o1.keep hf fun x hxx => hx _ (ht.o1.blk hxx).1 (by have := ht.b1 x hxx; omega), ht.b1, ht.o2.keep hf fun x hxx => hx _ (by have := (ht.o2.blk hxx).1; have := ht.hlo; omega) (h2 x hxx)⟩
end

/-- What is said of lengths: nought, or the error. -/
def chk (zs : List Int) : Nat :=
  if 320 < zs.length then 2
  else if ∃ z ∈ zs, z < 0 ∨ 15 < z then 1
  else if 32768 < fin (zs.map Int.toNat) 15 ∨ (fin (zs.map Int.toNat) 15 < 32768 ∧ 0 < (sorted (zs.map Int.toNat) 15).length ∧ ¬ ((sorted (zs.map Int.toNat) 15).length = 1 ∧ (zs.map Int.toNat).count 1 = 1)) then 4
  else 0

/-- A finished table of codes, whose blocks lie from lo up to hi. -/
structure Tab (w : World) (lo hi b : Nat) (ls : List Nat) : Prop where
  fits : Fits ls
  gap : Full ls ∨ (sorted ls 15).length = 0 ∨ ((sorted ls 15).length = 1 ∧ ls.count 1 = 1)
  small : ls.length ≤ 320
  at_ : ∃ l1 l2, TabW w lo b l1 (ls.map Int.ofNat) (fun n => ls.count n) (sorted ls 15) l2 ∧ b < hi ∧ ∀ x, l2.a = some x → x.block < hi
theorem Tab.keep {w w2 : World} {lo hi b : Nat} {ls : List Nat} (h : Tab w lo hi b ls) {X : Nat → Prop} (hf : Fr X w w2) (hx : ∀ k, lo ≤ k → k < hi → ¬ X k) : Tab w2 lo hi b ls := by
  obtain ⟨l1, l2, ht, hb, h2⟩ := h.at_
  exact ⟨h.fits, h.gap, h.small, l1, l2, ht.keep2 hb h2 hf hx, hb, h2⟩
theorem Tab.lt {w : World} {lo hi b : Nat} {ls : List Nat} (h : Tab w lo hi b ls) : lo ≤ b ∧ b < hi := by
  obtain ⟨l1, l2, ht, hb, h2⟩ := h.at_; exact ⟨ht.hlo, hb⟩
theorem Tab.drew {w w2 : World} {lo hi b : Nat} {ls : List Nat} (h : Tab w lo hi b ls) (d : Drew w w2) : Tab w2 lo hi b ls := h.keep (.drew (fun _ => False) d) (by simp)

theorem count_take_step' (ls : List Nat) (n : Nat) {s m : Nat} (h : ls[s]? = some m) : (ls.take (s + 1)).count n = (ls.take s).count n + (if m = n then 1 else 0) := by
  obtain ⟨h2, h3⟩ := List.getElem?_eq_some_iff.1 h
  rw [List.take_succ_eq_append_getElem h2, List.count_append, h3]
  by_cases hm : m = n
  · subst hm; simp
  · simp [hm]
/-- The symbols below s whose codes have n bits. -/
def symsTo (ls : List Nat) (n s : Nat) : List Nat := (List.range s).filter (fun i => ls[i]? == some n)
theorem symsTo_all (ls : List Nat) (n : Nat) : symsTo ls n ls.length = syms ls n := rfl
theorem symsTo_succ (ls : List Nat) (n s m : Nat) (h : ls[s]? = some m) : symsTo ls n (s + 1) = symsTo ls n s ++ (if m = n then [s] else []) := by
  rw [symsTo, symsTo, List.range_succ, List.filter_append]
  congr 1
  by_cases hm : m = n
  · subst hm; simp [h]
  · simp [h, hm]

theorem hnew_spec {a : Option Addr} {zs : List Int} {n c : Nat} {w : World} (hr : Reads w a (iv zs)) (hn : zs.length = n) (ha : ∀ x, a = some x → x.block < w.heap.size) :
    Calls Tryz.prog F_huff_New #[.slice a n c] w fun e w' =>
      ((chk zs ≠ 0 ∧ e = .returned (.tuple #[.pointer none, .int .i64 ((chk zs : Nat) : Int)])) ∨
        (chk zs = 0 ∧ ∃ b, e = .returned (.tuple #[.pointer (some ⟨b, 0, none⟩), .int .i64 0]) ∧ Tab w' w.heap.size w'.heap.size b (zs.map Int.toNat))) ∧ Fr (fun _ => False) w w' := by
  subst hn
  refine vc_huff_New_ok (R := fun v w' => ((chk zs ≠ 0 ∧ v = .tuple #[.pointer none, .int .i64 ((chk zs : Nat) : Int)]) ∨
        (chk zs = 0 ∧ ∃ b, v = .tuple #[.pointer (some ⟨b, 0, none⟩), .int .i64 0] ∧ Tab w' w.heap.size w'.heap.size b (zs.map Int.toNat))) ∧ Fr (fun _ => False) w w') ?_ ?_
  rotate_left
  · rintro v w' ⟨h | h, hf⟩
    · exact ⟨.inl ⟨h.1, by rw [h.2]⟩, hf⟩
    · obtain ⟨h0, b, hv, ht⟩ := h
      exact ⟨.inr ⟨h0, b, by rw [hv], ht⟩, hf⟩
  refine ⟨fun hgt => ?_, fun hle => ?_⟩
  · have hgt := of_decide_eq_true hgt
    have hc : chk zs = 2 := by unfold chk; rw [if_pos (by omega)]
    rw [hc]
    exact ⟨.inl ⟨by decide, rfl⟩, .refl _ _⟩
  have hle := of_decide_eq_false hle
  have hlen : zs.length ≤ 320 := by omega
  obtain ⟨w1, l1, hr1, ho1, hf1⟩ := append_all elInt (Vc.Own.nil w w.heap.size T_int) c hr (one_iv zs) (by simp [maxLen]; omega) (by simp; omega) (Nat.le_refl _) (m := zs.length) (by simp)
  rw [List.nil_append] at ho1
  refine ⟨w1, l1, hr1, ?_⟩
  intro w3 hw3
  have hfw1 : Fr (fun _ => False) w w1 := hf1.mono fun k hk ⟨y, hy, _⟩ => by cases hy
  have hf3 : Fr (fun _ => False) w1 w3 := hw3 ▸ Fr.alloc _ _ _
  have hfw3 := hfw1.trans' hf3
  generalize hB : w1.heap.size = B
  have hblk3 : w3.heap[B]? = some (.cells (tcells l1 (fun n => (([] : List Nat)).count n) ⟨none, 0, 0⟩) T_huff_Table) := by rw [hw3, ← hB]; exact alloc_new _ _
  have hb1 : ∀ x, l1.a = some x → x.block < B := fun x hx => by rw [← hB]; exact (ho1.blk hx).2
  have hloB : w.heap.size ≤ B := by rw [← hB]; exact hfw1.size
  have hat : ∀ {wx : World}, Fr (fun _ => False) w wx → Reads wx a (iv zs) := fun {wx} hf => hr.keep hf (by simp)
  let ls := zs.map Int.toNat
  have hls : ls.length = zs.length := List.length_map ..
  have hget : ∀ {k : Nat}, k < zs.length → ls[k]? = some (zs.getD k 0).toNat := fun {k} hk => by
    simp only [ls, List.getElem?_map, List.getElem?_eq_getElem hk, Option.map_some, List.getD_eq_getElem?_getD, Option.getD_some]
  have hivget : ∀ {k : Nat}, k < zs.length → (iv zs)[k]? = some (.int .i64 (zs.getD k 0)) := fun {k} hk => by
    simp only [iv, List.getElem?_map, List.getElem?_eq_getElem hk, Option.map_some, List.getD_eq_getElem?_getD, Option.getD_some]
  refine ⟨fun i w7 => ∃ k : Nat, k ≤ zs.length ∧ i = (k : Int) ∧ (∀ z ∈ zs.take k, 0 ≤ z ∧ z ≤ 15) ∧ TabW w7 w.heap.size B l1 zs (fun n => (ls.take k).count n) [] ⟨none, 0, 0⟩ ∧ Fr (fun _ => False) w w7, fun i _ => ((zs.length : Int) - i).toNat,
    ⟨0, Nat.zero_le _, rfl, by simp, ⟨hloB, hblk3, ho1.keep hf3 (by simp), hb1, Vc.Own.nil _ _ _⟩, hfw3⟩, ?_⟩
  rintro i w7 ⟨k, hk, rfl, hz, ht, hf⟩
  refine ⟨fun hlt => ?_, fun hge => ?_⟩
  · have hlt := of_decide_eq_true hlt
    have hkl : k < zs.length := by omega
    obtain ⟨x, hx, hcx⟩ := hat hf k _ (hivget hkl)
    have hmem : zs.getD k 0 ∈ zs := by rw [List.getD_eq_getElem?_getD, List.getElem?_eq_getElem hkl]; exact List.getElem_mem hkl
    have hgk := hget hkl
    have htk : zs.take (k + 1) = zs.take k ++ [zs.getD k 0] := by
      rw [List.take_succ_eq_append_getElem hkl, List.getD_eq_getElem?_getD, List.getElem?_eq_getElem hkl]; rfl
    refine ⟨⟨by omega, by omega⟩, x, hx, zs.getD k 0, by rw [Int.toNat_natCast, Nat.mul_one]; exact hcx, ?_⟩
    generalize zs.getD k 0 = z at hmem hgk htk
    have bad : z < 0 ∨ 15 < z → chk zs = 1 := fun h => by
      unfold chk
      rw [if_neg (by omega), if_pos ⟨z, hmem, h⟩]
    refine ⟨fun h => ?_, fun h0 => ⟨fun h => ?_, fun h1 => ?_⟩⟩
    · rw [bad (.inl (of_decide_eq_true h))]; exact ⟨.inl ⟨by decide, rfl⟩, hf⟩
    · rw [bad (.inr (of_decide_eq_true h))]; exact ⟨.inl ⟨by decide, rfl⟩, hf⟩
    have h0 := of_decide_eq_false h0
    have h1 := of_decide_eq_false h1
    intro w10 d10
    have ht10 := ht.keep (.drew (fun _ => False) d10) (by simp)
    obtain ⟨m, rfl⟩ := Int.eq_ofNat_of_zero_le (show 0 ≤ z by omega)
    rw [Int.toNat_natCast] at hgk ⊢
    have hm : m < 16 := by omega
    have hcn := List.count_le_length (a := m) (l := ls.take k)
    have hcl : (ls.take k).length ≤ 320 := by rw [List.length_take]; omega
    refine ⟨⟨by omega, by omega⟩, _, ht10.cnt hm, ⟨by omega, by omega⟩, ?_, ?_⟩
    · rw [add_lit]
      exact wr_blk ht10.blk (by simp [tcells]; omega)
    intro w12 hw12
    have e1 : IntKind.i64.wrap (((ls.take k).count m : Nat) + 1 : Int) = (((ls.take k).count m + 1 : Nat) : Int) := by rw [wrap_i64 (by omega) (by omega)]; omega
    have e2 : IntKind.i64.wrap ((k : Int) + 1) = ((k + 1 : Nat) : Int) := by rw [wrap_i64 (by omega) (by omega)]; omega
    rw [e1, add_lit, Nat.mul_one] at hw12
    have hb12 := set_blk ht10.blk (1 + m) (.int .i64 (((ls.take k).count m + 1 : Nat) : Int))
    rw [← hw12, tcells_set _ _ _ _ m hm] at hb12
    have hf12 : Fr (· = B) w10 w12 := hw12 ▸ Fr.set (· = B) _ (a := ⟨B, 1 + m, none⟩) _ rfl
    rw [e2]
    refine ⟨⟨k + 1, by omega, rfl, ?_, ⟨hloB, ?_, ht10.o1.keep hf12 (fun y hy => by have := hb1 y hy; omega), hb1, Vc.Own.nil _ _ _⟩, (hf.trans' (.drew _ d10)).trans hf12 (fun q hq h => by omega)⟩, by dsimp only; omega⟩
    · intro y hy
      rw [htk, List.mem_append] at hy
      rcases hy with hy | hy
      · exact hz y hy
      · rw [List.mem_singleton] at hy; omega
    · have hc := tcells_congr l1 (c := fun q => if q = m then (ls.take k).count m + 1 else (ls.take k).count q) (d := fun n => (ls.take (k + 1)).count n) ⟨none, 0, 0⟩ (fun q _ => by
        rw [count_take_step' ls q hgk]
        by_cases hq : q = m
        · subst hq; simp
        · rw [if_neg hq, if_neg (fun h => hq h.symm)]; rfl)
      rw [hb12, hc]
  have hge := of_decide_eq_false hge
  have hkk : k = zs.length := by omega
  subst hkk
  rw [List.take_length] at hz
  have htl : ls.take zs.length = ls := List.take_of_length_le (by omega)
  rw [htl] at ht
  have hno : ¬ ∃ z ∈ zs, z < 0 ∨ 15 < z := fun ⟨z, hm, h⟩ => by have := hz z hm; omega
  have h15 : ∀ n ∈ ls, n ≤ 15 := fun n hn => by
    obtain ⟨z, hm, rfl⟩ := List.mem_map.1 hn
    have := hz z hm; omega
  have over : ∀ {m : Nat}, m ≤ 15 → 2 ^ m < fin ls m → chk zs = 4 := fun {m} hm h => by
    have := over_later ls h hm
    unfold chk
    rw [if_neg (by omega), if_neg hno, if_pos (.inl this)]
  have hsl := sorted_le ls
  refine ⟨fun left codes n w' => ∃ (m : Nat) (l2 : Sl), m ≤ 15 ∧ n = (m : Int) + 1 ∧ fin ls m ≤ 2 ^ m ∧ left = ((2 ^ m - fin ls m : Nat) : Int) ∧ codes = (((sorted ls m).length : Nat) : Int) ∧
      TabW w' w.heap.size B l1 zs (fun n => ls.count n) (sorted ls m) l2 ∧ Fr (fun _ => False) w w', fun _ _ n _ => (17 - n).toNat,
    ⟨0, _, Nat.zero_le _, rfl, by simp [fin], by simp [fin], rfl, ht, hf⟩, ?_⟩
  rintro left codes n w18 ⟨m, l2, hm, rfl, hfl, rfl, rfl, ht, hf⟩
  have hp : 2 ^ m ≤ 2 ^ 15 := Nat.pow_le_pow_right (by decide) hm
  have hslm := hsl m
  refine ⟨fun hle => ?_, fun hgt => ?_⟩
  · have hle := of_decide_eq_true hle
    have hm14 : m + 1 ≤ 15 := by omega
    have hp14 : 2 ^ (m + 1) ≤ 2 ^ 15 := Nat.pow_le_pow_right (by decide) hm14
    have hp2 : 2 ^ (m + 1) = 2 * 2 ^ m := Nat.pow_succ'
    have hcnt : ls.count (m + 1) ≤ ls.length := List.count_le_length
    have hfs : fin ls (m + 1) = 2 * fin ls m + ls.count (m + 1) := rfl
    have htn : ((m : Int) + 1).toNat = m + 1 := by omega
    have hss : (sorted ls (m + 1)).length = (sorted ls m).length + ls.count (m + 1) := by rw [sorted, List.length_append, syms_length]
    have hslm1 := hsl (m + 1)
    rw [htn]
    refine ⟨⟨by omega, by omega⟩, _, ht.cnt (by omega), ⟨by omega, by omega⟩, _, ht.cnt (by omega), ?_⟩
    have e1 : IntKind.i64.wrap (IntKind.i64.wrap (2 * ((2 ^ m - fin ls m : Nat) : Int)) - ((ls.count (m + 1) : Nat) : Int)) = (2 ^ (m + 1) : Nat) - (fin ls (m + 1) : Int) := by
      rw [wrap_i64 (x := 2 * _) (by omega) (by omega), wrap_i64 (by omega) (by omega)]; omega
    have e2 : IntKind.i64.wrap ((((sorted ls m).length : Nat) : Int) + ((ls.count (m + 1) : Nat) : Int)) = (((sorted ls (m + 1)).length : Nat) : Int) := by rw [wrap_i64 (by omega) (by omega)]; omega
    have e3 : IntKind.i64.wrap ((m : Int) + 1 + 1) = ((m + 1 : Nat) : Int) + 1 := by rw [wrap_i64 (by omega) (by omega)]; omega
    rw [e1, e2, e3]
    refine ⟨fun h => ?_, fun h => ?_⟩
    · have h := of_decide_eq_true h
      rw [over hm14 (by omega)]
      exact ⟨.inl ⟨by decide, rfl⟩, hf⟩
    have h := of_decide_eq_false h
    refine ⟨fun i w24 => ∃ (k : Nat) (l2 : Sl), k ≤ zs.length ∧ i = (k : Int) ∧ TabW w24 w.heap.size B l1 zs (fun n => ls.count n) (sorted ls m ++ symsTo ls (m + 1) k) l2 ∧ Fr (fun _ => False) w w24, fun i _ => ((zs.length : Int) - i).toNat,
      ⟨0, l2, Nat.zero_le _, rfl, by simpa [symsTo] using ht, hf⟩, ?_⟩
    rintro i w24 ⟨k, l2', hk, rfl, ht24, hf24⟩
    refine ⟨fun hlt => ?_, fun hge => ?_⟩
    · have hlt := of_decide_eq_true hlt
      have hkl : k < zs.length := by omega
      obtain ⟨x, hx, hcx⟩ := hat hf24 k _ (hivget hkl)
      have hgk := hget hkl
      have hmem : zs.getD k 0 ∈ zs := by rw [List.getD_eq_getElem?_getD, List.getElem?_eq_getElem hkl]; exact List.getElem_mem hkl
      have e4 : IntKind.i64.wrap ((k : Int) + 1) = ((k + 1 : Nat) : Int) := by rw [wrap_i64 (by omega) (by omega)]; omega
      have hsk := symsTo_succ ls (m + 1) k _ hgk
      refine ⟨⟨by omega, by omega⟩, x, hx, zs.getD k 0, by rw [Int.toNat_natCast, Nat.mul_one]; exact hcx, ?_⟩
      have hz0 := hz _ hmem
      generalize zs.getD k 0 = z at hsk hz0
      rw [e4]
      refine ⟨fun heq => ?_, fun hne => ?_⟩
      · have heq : z = (m : Int) + 1 := by simpa using heq
        rw [if_pos (by omega)] at hsk
        refine ⟨l2', ht24.c17, ?_⟩
        intro w28 hw28
        have hlenx : (sorted ls m ++ symsTo ls (m + 1) k).length ≤ 640 := by
          have : (symsTo ls (m + 1) k).length ≤ k := by simpa [symsTo] using List.length_filter_le (fun i => ls[i]? == some (m + 1)) (List.range k)
          rw [List.length_append]; omega
        obtain ⟨w29, l30, hr30, ho30, hf30⟩ := append_one elInt ht24.o2 (v := .int .i64 (k : Int)) rfl (by simp only [List.length_map, maxLen]; omega) (by simp only [List.length_map]; omega) (lt_blk ht24.blk) hw28
        have hX : ∀ k, (∃ y, l2'.a = some y ∧ k = y.block) → B + 1 ≤ k := fun k ⟨y, hy, e⟩ => by rw [e]; exact (ht24.o2.blk hy).1
        have hb29 := hf30.keep ht24.blk (fun h => by have := hX _ h; omega)
        refine ⟨w29, l30, hr30, wr_blk hb29 (by simp [tcells]), ?_⟩
        intro w31 hw31
        have hb31 := set_blk hb29 17 (.slice l30.a l30.len l30.cap)
        rw [← hw31] at hb31
        have hf31 : Fr (· = B) w29 w31 := hw31 ▸ Fr.set (· = B) _ (a := ⟨B, 17, none⟩) _ rfl
        refine ⟨⟨k + 1, l30, by omega, rfl, ⟨hloB, hb31, ?_, hb1, ?_⟩, (hf24.trans hf30 (fun q hq hh => by have := hX _ hh; omega)).trans hf31 (fun q hq hh => by omega)⟩, by dsimp only; omega⟩
        · exact (ht24.o1.keep hf30 (fun y hy hh => by have := hX _ hh; have := hb1 y hy; omega)).keep hf31 (fun y hy => by have := hb1 y hy; omega)
        · rw [hsk, ← List.append_assoc]
          have := ho30.keep hf31 (fun y hy => by have := (ho30.blk hy).1; omega)
          simpa [nv] using this
      · have hne : ¬ z = (m : Int) + 1 := by simpa using hne
        rw [if_neg (by omega), List.append_nil] at hsk
        rw [← hsk] at ht24
        exact ⟨⟨k + 1, l2', by omega, rfl, ht24, hf24⟩, by dsimp only; omega⟩
    · have hge := of_decide_eq_false hge
      have : k = zs.length := by omega
      subst this
      rw [← hls, symsTo_all] at ht24
      refine ⟨⟨m + 1, l2', hm14, rfl, by omega, by omega, rfl, ht24, hf24⟩, by dsimp only; omega⟩
  have hgt := of_decide_eq_false hgt
  have hm15 : m = 15 := by omega
  subst hm15
  have hzs : zs = ls.map Int.ofNat := by
    simp only [ls, List.map_map]
    rw [eq_comm]
    exact (List.map_congr_left (g := id) fun z hz' => by have := hz z hz'; simp only [Function.comp_apply, id]; exact Int.toNat_of_nonneg this.1).trans (List.map_id _)
  have good : (fin ls 15 = 32768 ∨ (sorted ls 15).length = 0 ∨ ((sorted ls 15).length = 1 ∧ ls.count 1 = 1)) → chk zs = 0 ∧ Tab w18 w.heap.size w18.heap.size B ls := fun h => by
    refine ⟨?_, ⟨by omega, h15⟩, h, by omega, l1, l2, by rw [← hzs]; exact ht, lt_blk ht.blk, fun x hx => (ht.o2.blk hx).2⟩
    unfold chk
    rw [if_neg (by omega), if_neg hno, if_neg]
    show ¬ (32768 < fin ls 15 ∨ (fin ls 15 < 32768 ∧ 0 < (sorted ls 15).length ∧ ¬ ((sorted ls 15).length = 1 ∧ ls.count 1 = 1)))
    omega
  have bad : fin ls 15 < 32768 → 0 < (sorted ls 15).length → ¬ ((sorted ls 15).length = 1 ∧ ls.count 1 = 1) → chk zs = 4 := fun h1 h2 h3 => by
    unfold chk
    rw [if_neg (by omega), if_neg hno, if_pos (.inr ⟨h1, h2, h3⟩)]
  refine ⟨fun hl => ?_, fun hl => ?_⟩
  · have hl := of_decide_eq_true hl
    refine ⟨fun hc => ?_, fun hc => ?_⟩
    · have hc := of_decide_eq_true hc
      refine ⟨fun h1 => ?_, fun h1 => ?_⟩
      · have h1 : (((sorted ls 15).length : Nat) : Int) = 1 := by simpa using h1
        refine ⟨⟨by decide, by decide⟩, _, ht.cnt (n := 1) (by decide), fun h2 => ?_, fun h2 => ?_⟩
        · have h2 : ¬ ls.count 1 = 1 := by intro h; rw [h] at h2; exact absurd h2 (by decide)
          rw [bad (by omega) (by omega) (by omega)]
          exact ⟨.inl ⟨by decide, rfl⟩, hf⟩
        · have h2 : ls.count 1 = 1 := by
            by_cases h : ls.count 1 = 1
            · exact h
            · exfalso
              have : (((ls.count 1 : Nat) : Int) == 1) = false := by simp; omega
              rw [this] at h2; exact absurd h2 (by decide)
          obtain ⟨g1, g2⟩ := good (by omega)
          exact ⟨.inr ⟨g1, B, rfl, g2⟩, hf⟩
      · have h1 : ¬ (((sorted ls 15).length : Nat) : Int) = 1 := by simpa using h1
        rw [bad (by omega) (by omega) (by omega)]
        exact ⟨.inl ⟨by decide, rfl⟩, hf⟩
    · have hc := of_decide_eq_false hc
      obtain ⟨g1, g2⟩ := good (by omega)
      exact ⟨.inr ⟨g1, B, rfl, g2⟩, hf⟩
  · have hl := of_decide_eq_false hl
    obtain ⟨g1, g2⟩ := good (by omega)
    exact ⟨.inr ⟨g1, B, rfl, g2⟩, hf⟩
end Go.Proofs.YtllegkmadljmaaaGreatDoor

/- What Code and Read of a table of codes do, for every table and reader in order. -/
set_option linter.unusedVariables false
namespace Go.Proofs.YtllegkmadljmaaaGreatDoor
open Go Vc BitsM HuffM Go.Proofs

/-- A symbol's code and length; nought, nought: it has none. -/
def cd (ls : List Nat) (x : Int) : Nat × Nat := if 0 ≤ x ∧ ls.getD x.toNat 0 ≠ 0 then (code ls x.toNat, ls.getD x.toNat 0) else (0, 0)
theorem nv_get {l : List Nat} {k x : Nat} (h : l[k]? = some x) : (nv l)[k]? = some (.int .i64 (x : Int)) := by simp [nv, h]
theorem iv_ofNat (ls : List Nat) : iv (ls.map Int.ofNat) = nv ls := by simp [iv, nv]
theorem sorted_mono (ls : List Nat) (n : Nat) : ∀ d, (sorted ls n).length ≤ (sorted ls (n + d)).length
  | 0 => Nat.le_refl _
  | d + 1 => by rw [← Nat.add_assoc, sorted, List.length_append]; have := sorted_mono ls n d; omega
theorem sorted_lt {ls : List Nat} {z m : Nat} (hz : z ∈ ls) (hm : m < z) (h15 : z ≤ 15) : (sorted ls m).length < (sorted ls 15).length := by
  have h1 := sorted_mono ls m (z - 1 - m)
  have h2 := sorted_mono ls z (15 - z)
  rw [show m + (z - 1 - m) = z - 1 by omega] at h1
  rw [show z + (15 - z) = 15 by omega] at h2
  obtain ⟨q, rfl⟩ : ∃ q, z = q + 1 := ⟨z - 1, by omega⟩
  have h3 : (sorted ls (q + 1)).length = (sorted ls q).length + ls.count (q + 1) := by rw [sorted, List.length_append, syms_length]
  have h4 : 0 < ls.count (q + 1) := List.count_pos_iff.2 hz
  rw [Nat.add_sub_cancel] at h1; omega
theorem sorted_more {ls : List Nat} {m : Nat} (h : (sorted ls m).length < (sorted ls 15).length) : ∃ z ∈ ls, m < z := by
  rw [sorted_length, sorted_length] at h
  apply Classical.byContradiction
  intro hno
  have : ls.countP (fun x => decide (1 ≤ x ∧ x ≤ 15)) ≤ ls.countP (fun x => decide (1 ≤ x ∧ x ≤ m)) := List.countP_mono_left fun x hx hp => by
    have : x ≤ m := Nat.le_of_not_lt fun hl => hno ⟨x, hx, hl⟩
    simp only [decide_eq_true_eq] at hp ⊢; omega
  omega

/-- What reading the bits B comes to: a symbol, or an error; how many bits are taken. -/
def Res (ls : List Nat) (B : List Bool) (x err n : Nat) : Prop :=
  (err = 0 ∧ HuffM.At ls B x n) ∨ (err = 6 ∧ x = 0 ∧ n = B.length ∧ n < 15 ∧ fin ls n ≤ hv B ∧ ∃ z ∈ ls, n < z) ∨ (err = 3 ∧ x = 0 ∧ n ≤ B.length ∧ n ≤ 15 ∧ fin ls n ≤ hv (B.take n) ∧ ∀ z ∈ ls, z ≤ n)
theorem Res.le {ls : List Nat} {B : List Bool} {x err n : Nat} (h : Res ls B x err n) : n ≤ B.length := by
  rcases h with ⟨_, h⟩ | ⟨_, _, h, _⟩ | ⟨_, _, h, _⟩
  · exact h.2.2.1
  · omega
  · exact h

theorem or_bit (c b : Nat) (hb : b ≤ 1) : (2 * c) ||| b = 2 * c + b := by
  have := Nat.two_pow_add_eq_or_of_lt (i := 1) (b := b) (by omega) c
  simpa using this.symm
theorem shl_or {c b : Nat} (hc : c < 32768) (hb : b ≤ 1) :
    IntKind.i64.wrap (↑((BitVec.ofInt 64 (IntKind.i64.wrap ((c : Int) * 2 ^ min (Int.toNat 1) 64)) ||| BitVec.ofInt 64 (IntKind.i64.wrap (b : Int))).toNat) : Int) = ((2 * c + b : Nat) : Int) := by
  have h2 : (2 : Int) ^ min (Int.toNat 1) 64 = 2 := rfl
  have e : ((c : Int) * 2) = ((2 * c : Nat) : Int) := by omega
  rw [h2, e, wrap_i64 (x := ((2 * c : Nat) : Int)) (by omega) (by omega), wrap_i64 (x := (b : Int)) (by omega) (by omega), or_nat 64 _ _ (by omega) (by omega), or_bit c b hb, wrap_i64 (by omega) (by omega)]

theorem hread_spec {w : World} {lo hi b rb : Nat} {ls : List Nat} (h : Tab w lo hi b ls) {s : ByteArray} {pos : Nat} {from_ : Int} (hr : Rd w rb s pos from_) (hrb : rb < lo ∨ hi ≤ rb) :
    Calls Tryz.prog F_huff_Table_Read #[.pointer (some ⟨b, 0, none⟩), .pointer (some ⟨rb, 0, none⟩)] w fun e w' =>
      ∃ x err n, e = .returned (.tuple #[.int .i64 ((x : Nat) : Int), .int .i64 ((err : Nat) : Int)]) ∧ Res ls ((sbits s.data.toList).drop pos) x err n ∧ Rd w' rb s (pos + n) from_ ∧ Fr (· = rb) w w' := by
  obtain ⟨l1, l2, ht, hb, hh⟩ := h.at_
  have hfits := h.fits
  have hls := h.small
  refine vc_huff_Table_Read_ok (R := fun v w' => ∃ x err n, v = .tuple #[.int .i64 ((x : Nat) : Int), .int .i64 ((err : Nat) : Int)] ∧ Res ls ((sbits s.data.toList).drop pos) x err n ∧ Rd w' rb s (pos + n) from_ ∧ Fr (· = rb) w w') ?_
    (fun v w' ⟨x, err, n, h⟩ => ⟨x, err, n, by rw [h.1], h.2⟩)
  have hlen2 : l2.len = (sorted ls 15).length := by rw [ht.o2.len, List.length_map]
  have hsl := sorted_le ls
  have hBlen : ((sbits s.data.toList).drop pos).length = left s pos := by
    rw [List.length_drop, sbits_length]; unfold left; simp
  generalize hBd : (sbits s.data.toList).drop pos = B at hBlen
  refine ⟨l2, ht.c17, fun h0 => ?_, fun h0 => ?_⟩
  · have h0 : l2.len = 0 := by have : (l2.len : Int) = 0 := by simpa using h0
                               omega
    refine ⟨0, 3, 0, rfl, .inr (.inr ⟨rfl, rfl, Nat.zero_le _, by decide, by simp [fin], fun z hz => ?_⟩), hr, .refl _ _⟩
    rcases Nat.eq_zero_or_pos z with h | h
    · omega
    · have := sorted_lt hz (m := z - 1) (by omega) (hfits.2 z hz); omega
  have h0 : ¬ l2.len = 0 := fun h => by simp [h] at h0
  refine ⟨fun cde first at_ n w' => ∃ m : Nat, n = (m : Int) + 1 ∧ m ≤ B.length ∧ m ≤ 15 ∧ cde = ((hv (B.take m) : Nat) : Int) ∧ first = ((2 * fin ls m : Nat) : Int) ∧ at_ = (((sorted ls m).length : Nat) : Int) ∧
      fin ls m ≤ hv (B.take m) ∧ (sorted ls m).length < (sorted ls 15).length ∧ Rd w' rb s (pos + m) from_ ∧ Fr (· = rb) w w', fun _ _ _ n _ => (17 - n).toNat,
    ⟨0, rfl, Nat.zero_le _, by decide, rfl, rfl, rfl, by simp [fin], (by show 0 < (sorted ls 15).length; omega), hr, .refl _ _⟩, ?_⟩
  rintro cde first at_ n w8 ⟨m, rfl, hmB, hm15, rfl, rfl, rfl, hge, hmore, hr8, hf8⟩
  have hm14 : m < 15 := by
    rcases Nat.lt_or_ge m 15 with h | h
    · exact h
    · have : m = 15 := by omega
      subst this; omega
  refine ⟨fun _ => ?_, fun hgt => absurd (of_decide_eq_false hgt) (by omega)⟩
  refine (rbits_spec hr8 (n := 1) (by decide)).mono ?_
  rintro e w10 ⟨rfl, hr10, hf10⟩
  have ht10 := ht.keep2 hb hh (hf8.trans' hf10) (fun k h1 h2 h3 => by omega)
  have hlp : left s (pos + m) = B.length - m := by rw [hBlen]; unfold left; omega
  refine ⟨_, _, rfl, fun hno => ?_, fun hyes => ?_⟩
  · have hno : ¬ 1 ≤ left s (pos + m) := by simpa using hno
    rw [if_neg hno] at hr10
    have hmB : m = B.length := by omega
    refine ⟨0, 6, m, rfl, .inr (.inl ⟨rfl, rfl, hmB, hm14, ?_, sorted_more hmore⟩), hr10, hf8.trans' hf10⟩
    subst hmB; rwa [List.take_length] at hge
  have hyes : 1 ≤ left s (pos + m) := by simpa using hyes
  rw [if_pos hyes] at hr10
  have hmlt : m < B.length := by omega
  have hbit : nbits s (pos + m) 1 = B[m].toNat := by
    rw [nbits_list, ← List.drop_drop, hBd, List.drop_eq_getElem_cons hmlt]
    cases B[m] <;> rfl
  have htk : B.take (m + 1) = B.take m ++ [B[m]] := List.take_succ_eq_append_getElem hmlt
  have hhv : hv (B.take (m + 1)) = 2 * hv (B.take m) + B[m].toNat := by rw [htk, hv_snoc]
  have hb1 : B[m].toNat ≤ 1 := Bool.toNat_le _
  have hvl := hv_lt (B.take m)
  have hp : 2 ^ (B.take m).length ≤ 2 ^ 14 := Nat.pow_le_pow_right (by decide) (by rw [List.length_take]; omega)
  have hfle : fin ls (m + 1) ≤ 32768 := by
    have := hfits.le (n := m + 1) (by omega)
    have : 2 ^ (m + 1) ≤ 2 ^ 15 := Nat.pow_le_pow_right (by decide) (by omega)
    omega
  have hfs : fin ls (m + 1) = 2 * fin ls m + ls.count (m + 1) := rfl
  have hss : (sorted ls (m + 1)).length = (sorted ls m).length + ls.count (m + 1) := by rw [sorted, List.length_append, syms_length]
  have hs1 := hsl (m + 1)
  have htn : ((m : Int) + 1).toNat = m + 1 := by omega
  rw [if_pos hyes, hbit, shl_or (by omega) hb1, ← hhv, htn]
  generalize hC : hv (B.take (m + 1)) = C at hhv
  have e1 : IntKind.i64.wrap ((C : Int) - ((2 * fin ls m : Nat) : Int)) = ((C - 2 * fin ls m : Nat) : Int) := by rw [wrap_i64 (by omega) (by omega)]; omega
  rw [e1]
  refine ⟨by decide, ⟨by omega, by omega⟩, _, ht10.cnt (by omega), fun hlt => ?_, fun hge2 => ?_⟩
  · have hlt := of_decide_eq_true hlt
    have hk' : C - 2 * fin ls m < (syms ls (m + 1)).length := by rw [syms_length]; omega
    have hsy := List.getElem?_eq_getElem hk'
    generalize (syms ls (m + 1))[C - 2 * fin ls m] = x at hsy
    obtain ⟨hs1', hs2⟩ := syms_code hsy
    have hso := sorted_get (by omega) hsy (15 - (m + 1))
    rw [show m + 1 + (15 - (m + 1)) = 15 by omega, Nat.add_sub_cancel] at hso
    obtain ⟨z, hz, hcz⟩ := ht10.o2.reads _ _ (nv_get hso)
    have hso15 := (List.getElem?_eq_some_iff.1 hso).1
    have hsz := hsl 15
    have e2 : IntKind.i64.wrap ((((sorted ls m).length : Nat) : Int) + ((C - 2 * fin ls m : Nat) : Int)) = (((sorted ls m).length + (C - 2 * fin ls m) : Nat) : Int) := by rw [wrap_i64 (by omega) (by omega)]; omega
    rw [e2]
    refine ⟨l2, ht10.c17, ⟨by omega, by omega⟩, z, hz, _, by rw [Int.toNat_natCast, Nat.mul_one]; exact hcz, x, 0, m + 1, rfl, .inl ⟨rfl, hs1', by omega, by omega, ?_⟩, hr10, hf8.trans' hf10⟩
    rw [hC, hs2, Nat.add_sub_cancel]; omega
  · have hge2 := of_decide_eq_false hge2
    have e2 : IntKind.i64.wrap ((((sorted ls m).length : Nat) : Int) + ((ls.count (m + 1) : Nat) : Int)) = (((sorted ls (m + 1)).length : Nat) : Int) := by rw [wrap_i64 (by omega) (by omega)]; omega
    have h2 : (2 : Int) ^ min (Int.toNat 1) 64 = 2 := rfl
    have e3 : IntKind.i64.wrap (IntKind.i64.wrap (((2 * fin ls m : Nat) : Int) + ((ls.count (m + 1) : Nat) : Int)) * 2 ^ min (Int.toNat 1) 64) = ((2 * fin ls (m + 1) : Nat) : Int) := by
      rw [h2, wrap_i64 (x := _ + _) (by omega) (by omega), wrap_i64 (by omega) (by omega)]; omega
    have e4 : IntKind.i64.wrap ((m : Int) + 1 + 1) = ((m + 1 : Nat) : Int) + 1 := by rw [wrap_i64 (by omega) (by omega)]; omega
    have hge' : fin ls (m + 1) ≤ hv (B.take (m + 1)) := by rw [hC]; omega
    refine ⟨⟨by omega, by omega⟩, _, ht10.cnt (by omega), ⟨by omega, by omega⟩, _, ht10.cnt (by omega), by decide, l2, ht10.c17, ?_⟩
    rw [e2, e3, e4]
    refine ⟨fun heq => ?_, fun hne => ?_⟩
    · have heq : (((sorted ls (m + 1)).length : Nat) : Int) = (l2.len : Int) := by simpa using heq
      refine ⟨0, 3, m + 1, rfl, .inr (.inr ⟨rfl, rfl, by omega, by omega, hge', fun z hz => ?_⟩), hr10, hf8.trans' hf10⟩
      rcases Nat.lt_or_ge (m + 1) z with h | h
      · have := sorted_lt hz h (hfits.2 z hz); omega
      · exact h
    · have hne : ¬ (((sorted ls (m + 1)).length : Nat) : Int) = (l2.len : Int) := by simpa using hne
      have hmono := sorted_mono ls (m + 1) (15 - (m + 1))
      rw [show m + 1 + (15 - (m + 1)) = 15 by omega] at hmono
      exact ⟨⟨m + 1, rfl, by omega, by omega, by rw [hC], rfl, rfl, hge', by omega, hr10, hf8.trans' hf10⟩, by dsimp only; omega⟩
end Go.Proofs.YtllegkmadljmaaaGreatDoor

/- Plain facts on bits put into bytes. -/
set_option linter.unusedVariables false
namespace BitsM
open Vc
/-- Byte number i of a list of bits. -/
def byteOf (l : List Bool) (i : Nat) : UInt8 := UInt8.ofNat (num ((l.drop (8 * i)).take 8))
theorem byteOf_nat (l : List Bool) (i : Nat) : (byteOf l i).toNat = num ((l.drop (8 * i)).take 8) := by
  unfold byteOf
  have h := num_lt ((l.drop (8 * i)).take 8)
  have : 2 ^ ((l.drop (8 * i)).take 8).length ≤ 2 ^ 8 := Nat.pow_le_pow_right (by decide) (List.length_take_le _ _)
  rw [UInt8.toNat_ofNat_of_lt']
  exact Nat.lt_of_lt_of_le h this
/-- The first k bytes. -/
def bytesOf (l : List Bool) (k : Nat) : List UInt8 := (List.range k).map (byteOf l)
theorem bytesOf_length (l : List Bool) (k : Nat) : (bytesOf l k).length = k := by simp [bytesOf]
theorem bytesOf_succ (l : List Bool) (k : Nat) : bytesOf l (k + 1) = bytesOf l k ++ [byteOf l k] := by simp [bytesOf, List.range_succ]
theorem byteOf_append (l r : List Bool) (i : Nat) (h : 8 * (i + 1) ≤ l.length) : byteOf (l ++ r) i = byteOf l i := by
  unfold byteOf
  rw [List.drop_append_of_le_length (by omega), List.take_append_of_le_length (by rw [List.length_drop]; omega)]
theorem bytesOf_append (l r : List Bool) (k : Nat) (h : 8 * k ≤ l.length) : bytesOf (l ++ r) k = bytesOf l k := by
  unfold bytesOf
  apply List.map_congr_left
  intro i hi
  have := List.mem_range.1 hi
  exact byteOf_append l r i (by omega)
/-- All the bytes, the last one filled with noughts. -/
def textOf (l : List Bool) : List UInt8 := bytesOf l ((l.length + 7) / 8)
theorem textOf_length (l : List Bool) : (textOf l).length = (l.length + 7) / 8 := bytesOf_length _ _
/-- The bits of the bytes are the bits, and noughts. -/
def fill8 (l : List Bool) : List Bool := l ++ List.replicate (8 * ((l.length + 7) / 8) - l.length) false
theorem num_replicate : ∀ n, num (List.replicate n false) = 0
  | 0 => rfl
  | n + 1 => by simp [List.replicate_succ, num, num_replicate n]
theorem byteOf_fill (l : List Bool) (i : Nat) : byteOf (fill8 l) i = byteOf l i := by
  have : num (((fill8 l).drop (8 * i)).take 8) = num ((l.drop (8 * i)).take 8) := by
    rw [num_take, num_take, num_drop, num_drop]
    unfold fill8
    rw [num_append, num_replicate]; simp
  unfold byteOf; rw [this]
theorem lowB_num : ∀ (l : List Bool), lowB l.length (num l) = l
  | [] => rfl
  | b :: r => by
    simp only [List.length_cons, lowB, num]
    have h1 : (b.toNat + 2 * num r) % 2 = b.toNat := by have := Bool.toNat_le b; omega
    have h2 : (b.toNat + 2 * num r) / 2 = num r := by have := Bool.toNat_le b; omega
    rw [h1, h2, lowB_num r]
    cases b <;> rfl
theorem sbits_bytesOf (l : List Bool) : ∀ k, 8 * k ≤ l.length → sbits (bytesOf l k) = l.take (8 * k)
  | 0, _ => rfl
  | k + 1, h => by
    rw [bytesOf_succ, sbits_append, sbits_bytesOf l k (by omega)]
    simp only [sbits, List.append_nil, byteOf_nat]
    have hl : ((l.drop (8 * k)).take 8).length = 8 := by simp; omega
    have := lowB_num ((l.drop (8 * k)).take 8)
    rw [hl] at this
    rw [this, show 8 * (k + 1) = 8 * k + 8 by omega, List.take_add]
theorem sbits_textOf (l : List Bool) : sbits (textOf l) = fill8 l := by
  have hl : (fill8 l).length = 8 * ((l.length + 7) / 8) := by unfold fill8; simp; omega
  have h1 : textOf l = bytesOf (fill8 l) ((l.length + 7) / 8) := by
    unfold textOf bytesOf
    apply List.map_congr_left
    intro i _
    exact (byteOf_fill l i).symm
  rw [h1, sbits_bytesOf _ _ (by omega), ← hl, List.take_length]
theorem textOf_sbits (m : List UInt8) : textOf (sbits m) = m := by
  apply List.ext_getElem?
  intro i
  unfold textOf bytesOf
  rw [sbits_length, show (8 * m.length + 7) / 8 = m.length by omega, List.getElem?_map]
  by_cases hi : i < m.length
  · rw [List.getElem?_range hi, List.getElem?_eq_getElem hi]
    simp only [Option.map_some, Option.some.injEq]
    apply UInt8.toNat_inj.1
    rw [byteOf_nat, ← sbits_drop, List.drop_eq_getElem_cons hi]
    have := (m[i]).toNat_lt
    simp only [sbits]
    rw [List.take_append_of_le_length (by rw [lowB_length]; omega), List.take_of_length_le (by rw [lowB_length]; omega), num_lowB, Nat.mod_eq_of_lt (by omega)]
  · rw [List.getElem?_eq_none (by simp; omega), List.getElem?_eq_none (by omega)]; rfl
theorem lowB_zero : ∀ n, lowB n 0 = List.replicate n false
  | 0 => rfl
  | n + 1 => by simp [lowB, lowB_zero n, List.replicate_succ]
theorem fill8_length (l : List Bool) : (fill8 l).length = 8 * ((l.length + 7) / 8) := by unfold fill8; simp; omega
theorem fill8_lowB (l : List Bool) (h : l.length % 8 ≠ 0) : l ++ lowB (8 - l.length % 8) 0 = fill8 l := by
  unfold fill8
  rw [lowB_zero, show 8 * ((l.length + 7) / 8) - l.length = 8 - l.length % 8 by omega]
theorem fill8_whole (l : List Bool) (h : l.length % 8 = 0) : fill8 l = l := by
  unfold fill8
  rw [show 8 * ((l.length + 7) / 8) - l.length = 0 by omega]; simp
theorem bytesOf_sbits (L : List Bool) (q : Nat) (hq : L.length = 8 * q) (s : List UInt8) : ∀ j, j ≤ s.length → bytesOf (L ++ sbits s) (q + j) = bytesOf L q ++ s.take j
  | 0, _ => by rw [Nat.add_zero, bytesOf_append _ _ _ (by omega)]; simp
  | j + 1, h => by
    rw [← Nat.add_assoc, bytesOf_succ, bytesOf_sbits L q hq s j (by omega), List.take_succ_eq_append_getElem (by omega), List.append_assoc]
    congr 2
    have h1 : byteOf (L ++ sbits s) (q + j) = byteOf (sbits s) j := by
      unfold byteOf
      rw [show 8 * (q + j) = L.length + 8 * j by omega, ← List.drop_drop, List.drop_left]
    have h2 := congrArg (fun l => l[j]?) (textOf_sbits s)
    simp only [textOf, bytesOf, sbits_length] at h2
    rw [show (8 * s.length + 7) / 8 = s.length by omega, List.getElem?_map, List.getElem?_range (by omega), List.getElem?_eq_getElem (by omega)] at h2
    simp only [Option.map_some, Option.some.injEq] at h2
    rw [h1, h2]
end BitsM

/- Plain facts: what the reference's reading comes to is what the table's reading comes to. -/
set_option linter.unusedVariables false
namespace HuffM
open BitsM Go.Proofs.YtllegkmadljmaaaGreatDoor
theorem num_inj : ∀ {l r : List Bool}, l.length = r.length → num l = num r → l = r
  | [], [], _, _ => rfl
  | a :: l, b :: r, hl, hn => by
    simp only [num] at hn
    have ha := Bool.toNat_le a
    have hb := Bool.toNat_le b
    have h1 : a.toNat = b.toNat := by omega
    have h2 : num l = num r := by omega
    rw [num_inj (by simpa using hl) h2]
    congr 1
    cases a <;> cases b <;> simp_all
theorem hv_inj {l r : List Bool} (hl : l.length = r.length) (h : hv l = hv r) : l = r := by
  have := num_inj (l := l.reverse) (r := r.reverse) (by simpa using hl) h
  exact List.reverse_inj.1 this
theorem cbits_prefix {ls : List Nat} (hf : Fits ls) {s n : Nat} (h : ls[s]? = some n) (h1 : 1 ≤ n) (B : List Bool) : cbits ls s <+: B ↔ At ls B s n := by
  have hl : (cbits ls s).length = n := by rw [cbits_length, getD_of h]
  constructor
  · intro hp
    have hle := hp.length_le
    refine ⟨h, h1, by omega, ?_⟩
    have := List.prefix_iff_eq_take.1 hp
    rw [hl] at this
    rw [← this, hv_cbits hf h h1]
  · rintro ⟨_, _, h2, h3⟩
    rw [List.prefix_iff_eq_take, hl]
    exact hv_inj (by rw [hl, List.length_take]; omega) (by rw [h3, hv_cbits hf h h1])
/-- What the reference's reading comes to. -/
def RefRes (ls : List Nat) (B : List Bool) (y n err : Nat) : Prop :=
  (err = 0 ∧ At ls B y n) ∨ (err = 6 ∧ y = 0 ∧ n = 0 ∧ (∀ s m, ¬ At ls B s m) ∧ ∃ s, B.length < (cbits ls s).length ∧ B <+: cbits ls s) ∨
  (err = 3 ∧ y = 0 ∧ n = 0 ∧ (∀ s m, ¬ At ls B s m) ∧ ∀ s, s < ls.length → B.length < (cbits ls s).length → ¬ B <+: cbits ls s)
/-- Without a gap, or without codes, or the one code 0. -/
def Gap (ls : List Nat) : Prop := Full ls ∨ (sorted ls 15).length = 0 ∨ ((sorted ls 15).length = 1 ∧ ls.count 1 = 1)
theorem no_at {ls : List Nat} {B : List Bool} {n : Nat} (hn : n ≤ B.length) (h : fin ls n ≤ hv (B.take n)) {s m : Nat} (hm : m ≤ n) : ¬ At ls B s m := by
  intro ha
  have h1 := hv_take B hm hn
  rw [ha.2.2.2] at h1
  have h2 := code_lt ha.1 ha.2.1
  have h3 := fin_double ls m (n - m)
  rw [show m + (n - m) = n by omega] at h3
  have h4 : fin ls m ≤ hv (B.take n) / 2 ^ (n - m) := by rw [Nat.le_div_iff_mul_le (Nat.two_pow_pos _), Nat.mul_comm]; omega
  omega
theorem res_ref {ls : List Nat} (hf : Fits ls) (hg : Gap ls) {B : List Bool} {x err n y m err' : Nat} (h : Res ls B x err n) (h' : RefRes ls B y m err') : x = y ∧ err = err' ∧ (err = 0 → n = m) := by
  rcases h with ⟨rfl, ha⟩ | ⟨rfl, rfl, hn, h15, hge, hz⟩ | ⟨rfl, rfl, hn, h15, hge, hz⟩
  · rcases h' with ⟨rfl, hb⟩ | ⟨_, _, _, hno, _⟩ | ⟨_, _, _, hno, _⟩
    · obtain ⟨h1, h2⟩ := ha.one hb; exact ⟨h1, rfl, fun _ => h2⟩
    · exact absurd ha (hno _ _)
    · exact absurd ha (hno _ _)
  · subst hn
    have hex : ∃ s, s < ls.length ∧ B.length < (cbits ls s).length ∧ B <+: cbits ls s := by
      rcases hg with hfull | h0 | ⟨h1, h2⟩
      · obtain ⟨s, m, hs, hm, hm15, hc⟩ := full_ext hfull (by omega) hge (hv_lt B)
        have hl : (cbits ls s).length = m := by rw [cbits_length, getD_of hs]
        refine ⟨s, (List.getElem?_eq_some_iff.1 hs).1, by omega, ?_⟩
        rw [List.prefix_iff_eq_take]
        refine hv_inj (by rw [List.length_take]; omega) ?_
        rw [hv_take _ (n := m) (by omega) (by omega), List.take_of_length_le (by omega), hv_cbits hf hs (by omega), hc]
      · obtain ⟨z, hm, hlt⟩ := hz
        have := sorted_lt hm hlt (hf.2 z hm); omega
      · obtain ⟨z, hm, hlt⟩ := hz
        have hz1 : z ≤ 1 := by
          rcases Nat.lt_or_ge 1 z with h | h
          · have h3 := sorted_lt hm h (hf.2 z hm)
            have h4 : (sorted ls 1).length = 0 + ls.count 1 := by rw [sorted, List.length_append, syms_length]; rfl
            omega
          · exact h
        have hB : B = [] := List.eq_nil_of_length_eq_zero (by omega)
        obtain ⟨s, hs, hsz⟩ := List.getElem_of_mem hm
        have hs? : ls[s]? = some z := by rw [List.getElem?_eq_getElem hs, hsz]
        refine ⟨s, hs, by rw [cbits_length, getD_of hs?]; omega, ?_⟩
        rw [hB]; exact List.nil_prefix
    rcases h' with ⟨rfl, hb⟩ | ⟨rfl, rfl, _, _, _⟩ | ⟨_, _, _, _, hno⟩
    · exact absurd hb (no_at (Nat.le_refl _) (by rwa [List.take_length]) hb.2.2.1)
    · exact ⟨rfl, rfl, fun h => by cases h⟩
    · obtain ⟨s, h1, h2, h3⟩ := hex
      exact absurd h3 (hno s h1 h2)
  · rcases h' with ⟨rfl, hb⟩ | ⟨rfl, rfl, _, _, s, h1, h2⟩ | ⟨rfl, rfl, _, _, _⟩
    · exact absurd hb (no_at hn hge (hz _ (List.mem_of_getElem? hb.1)))
    · exfalso
      rw [cbits_length] at h1
      have : ls.getD s 0 ≤ n := by
        rw [List.getD_eq_getElem?_getD]
        cases hs : ls[s]? with
        | none => exact Nat.zero_le _
        | some q => exact hz q (List.mem_of_getElem? hs)
      omega
    · exact ⟨rfl, rfl, fun h => by cases h⟩
end HuffM

/- Inflating, on lists of bits. -/
set_option linter.unusedVariables false
namespace InfM
open BitsM HuffM Go.Proofs.YtllegkmadljmaaaGreatDoor
/-- An error's number, or a value and the place behind it. -/
abbrev E (α : Type) := Except Nat (α × Nat)
/-- The next n bits. -/
def take (B : List Bool) (n p : Nat) : E Nat := if p + n ≤ B.length then .ok (num ((B.drop p).take n), p + n) else .error 6
/-- A longer code begins with these bits. -/
def Longer (ls : List Nat) (b : List Bool) : Prop := ∃ s, s < ls.length ∧ b.length < (cbits ls s).length ∧ b <+: cbits ls s
open Classical in
/-- The symbol whose code comes next. -/
noncomputable def sym (ls : List Nat) (B : List Bool) (p : Nat) : E Nat :=
  if h : ∃ x : Nat × Nat, HuffM.At ls (B.drop p) x.1 x.2 then .ok (h.choose.1, p + h.choose.2)
  else if Longer ls (B.drop p) then .error 6 else .error 3
theorem sym_at {ls : List Nat} {B : List Bool} {p s n : Nat} (h : HuffM.At ls (B.drop p) s n) : sym ls B p = .ok (s, p + n) := by
  have hx : ∃ x : Nat × Nat, HuffM.At ls (B.drop p) x.1 x.2 := ⟨(s, n), h⟩
  unfold sym
  rw [dif_pos hx]
  obtain ⟨h1, h2⟩ := hx.choose_spec.one h
  rw [h1, h2]
theorem ref_longer {ls : List Nat} (hf : Fits ls) (hg : Gap ls) {b : List Bool} {x err n : Nat} (h : Res ls b x err n) : (err = 0 ∧ HuffM.At ls b x n) ∨ (err = 6 ∧ x = 0 ∧ (∀ s m, ¬ HuffM.At ls b s m) ∧ Longer ls b) ∨ (err = 3 ∧ x = 0 ∧ (∀ s m, ¬ HuffM.At ls b s m) ∧ ¬ Longer ls b) := by
  by_cases h0 : err = 0
  · rcases h with h | ⟨h, _⟩ | ⟨h, _⟩
    · exact .inl h
    · omega
    · omega
  · have hno : ∀ s m, ¬ HuffM.At ls b s m := by
      intro s m ha
      rcases h with ⟨h, _⟩ | ⟨_, _, hn, _, hge, _⟩ | ⟨_, _, hn, _, hge, hz⟩
      · exact h0 h
      · subst hn; exact no_at (Nat.le_refl _) (by rwa [List.take_length]) ha.2.2.1 ha
      · exact no_at hn hge (hz _ (List.mem_of_getElem? ha.1)) ha
    rcases Classical.em (Longer ls b) with hl | hl
    · have href : RefRes ls b 0 0 6 := .inr (.inl ⟨rfl, rfl, rfl, hno, hl.imp fun _ h => h.2⟩)
      obtain ⟨h1, h2, _⟩ := res_ref hf hg h href
      exact .inr (.inl ⟨h2, h1, hno, hl⟩)
    · have href : RefRes ls b 0 0 3 := .inr (.inr ⟨rfl, rfl, rfl, hno, fun s h1 h2 h3 => hl ⟨s, h1, h2, h3⟩⟩)
      obtain ⟨h1, h2, _⟩ := res_ref hf hg h href
      exact .inr (.inr ⟨h2, h1, hno, hl⟩)
/-- What the table's reading comes to, as a function. -/
theorem sym_res {ls : List Nat} (hf : Fits ls) (hg : Gap ls) {B : List Bool} {p x err n : Nat} (h : Res ls (B.drop p) x err n) :
    (err = 0 ∧ sym ls B p = .ok (x, p + n) ∧ 1 ≤ n ∧ n ≤ (B.drop p).length ∧ x < ls.length) ∨ ((err = 6 ∨ err = 3) ∧ x = 0 ∧ sym ls B p = .error err) := by
  rcases ref_longer hf hg h with ⟨h1, h2⟩ | ⟨h1, h2, h3, h4⟩ | ⟨h1, h2, h3, h4⟩
  · exact .inl ⟨h1, sym_at h2, h2.2.1, h2.2.2.1, (List.getElem?_eq_some_iff.1 h2.1).1⟩
  · refine .inr ⟨.inl h1, h2, ?_⟩
    unfold sym
    rw [dif_neg (fun ⟨x, hx⟩ => h3 _ _ hx), if_pos h4, h1]
  · refine .inr ⟨.inr h1, h2, ?_⟩
    unfold sym
    rw [dif_neg (fun ⟨x, hx⟩ => h3 _ _ hx), if_neg h4, h1]

/-- Bytes out of bits. -/
def bytesAt (B : List Bool) (n p : Nat) : List UInt8 := (List.range n).map fun i => UInt8.ofNat (num ((B.drop (p + 8 * i)).take 8))
/-- A stored block. -/
def stored (most : Nat) (B : List Bool) (p0 : Nat) (out : List UInt8) : E (List UInt8) :=
  let p := (p0 + 7) / 8 * 8
  if p + 32 ≤ B.length then
    let n := num ((B.drop p).take 16)
    if n + num ((B.drop (p + 16)).take 16) ≠ 65535 then .error 3
    else if p + 32 + 8 * n ≤ B.length then
      if most < out.length + n then .error 2 else .ok (out ++ bytesAt B n (p + 32), p + 32 + 8 * n)
    else if most < out.length + (B.length - (p + 32)) / 8 then .error 2 else .error 6
  else .error 6
/-- The lengths of a dynamic block's codes. -/
noncomputable def clens (cl : List Nat) (tot : Nat) (B : List Bool) : Nat → Nat → List Nat → E (List Nat)
  | 0, _, _ => .error 99
  | f + 1, p, l =>
    if tot ≤ l.length then .ok (l, p)
    else match sym cl B p with
      | .error e => .error e
      | .ok (s, p) =>
        if s < 16 then clens cl tot B f p (l ++ [s])
        else if s = 16 ∧ l = [] then .error 3
        else match take B (if s = 16 then 2 else if s = 17 then 3 else 7) p with
          | .error e => .error e
          | .ok (n, p) =>
            let k := (if s = 16 ∨ s = 17 then 3 else 11) + n
            if tot < l.length + k then .error 3 else clens cl tot B f p (l ++ List.replicate k (if s = 16 then l.getLastD 0 else 0))
def places : List Nat := [16, 17, 18, 0, 8, 7, 9, 6, 10, 5, 11, 4, 12, 3, 13, 2, 14, 1, 15]
/-- The lengths of the codes of lengths: those in these places. -/
def firsts (B : List Bool) : List Nat → Nat → List Nat → E (List Nat)
  | [], p, l => .ok (l, p)
  | i :: r, p, l => match take B 3 p with
    | .error e => .error e
    | .ok (n, p) => firsts B r p (l.set i n)
def chkN (ls : List Nat) : Nat := chk (ls.map Int.ofNat)
noncomputable def tables (B : List Bool) (p : Nat) : E (List Nat × List Nat) :=
  match take B 14 p with
  | .error e => .error e
  | .ok (h, p) =>
    let nl := h % 32 + 257
    let nd := h / 32 % 32 + 1
    let nc := h / 1024 + 4
    if 286 < nl ∨ 30 < nd then .error 3
    else match firsts B (places.take nc) p (List.replicate 19 0) with
      | .error e => .error e
      | .ok (first, p) =>
        if chkN first ≠ 0 then .error 3
        else match clens first (nl + nd) B (nl + nd + 1) p [] with
          | .error e => .error e
          | .ok (l, p) => if l.getD 256 0 = 0 ∨ chkN (l.take nl) ≠ 0 ∨ chkN (l.drop nl) ≠ 0 then .error 3 else .ok ((l.take nl, l.drop nl), p)
def lenBase (i : Nat) : Nat × Nat := if i = 28 then (258, 0) else if i < 8 then (3 + i, 0) else (3 + (4 + i % 4) * 2 ^ (i / 4 - 1), i / 4 - 1)
def distBase (i : Nat) : Nat × Nat := if i < 4 then (1 + i, 0) else (1 + (2 + i % 2) * 2 ^ (i / 2 - 1), i / 2 - 1)
/-- n bytes from so far back. -/
def copy (back : Nat) : Nat → List UInt8 → List UInt8
  | 0, out => out
  | n + 1, out => copy back n (out ++ [out.getD (out.length - back) 0])
noncomputable def rep (dist : List Nat) (most : Nat) (B : List Bool) (s p : Nat) (out : List UInt8) : E (List UInt8) :=
  if 285 < s then .error 3
  else match take B (lenBase (s - 257)).2 p with
    | .error e => .error e
    | .ok (more, p) => match sym dist B p with
      | .error e => .error e
      | .ok (d, p) =>
        if 29 < d then .error 3
        else match take B (distBase d).2 p with
          | .error e => .error e
          | .ok (far, p) =>
            let n := (lenBase (s - 257)).1 + more
            let back := (distBase d).1 + far
            if out.length < back then .error 3
            else if most < out.length + n then .error 2 else .ok (copy back n out, p)
noncomputable def packed (lit dist : List Nat) (most : Nat) (B : List Bool) : Nat → Nat → List UInt8 → E (List UInt8)
  | 0, _, _ => .error 99
  | f + 1, p, out => match sym lit B p with
    | .error e => .error e
    | .ok (s, p) =>
      if s = 256 then .ok (out, p)
      else if s < 256 then if out.length = most then .error 2 else packed lit dist most B f p (out ++ [UInt8.ofNat s])
      else match rep dist most B s p out with
        | .error e => .error e
        | .ok (out, p) => packed lit dist most B f p out
def fixedLit : List Nat := List.replicate 144 8 ++ List.replicate 112 9 ++ List.replicate 24 7 ++ List.replicate 8 8
def fixedDist : List Nat := List.replicate 32 5
noncomputable def block (most : Nat) (B : List Bool) (kind p : Nat) (out : List UInt8) : E (List UInt8) :=
  if kind = 0 then stored most B p out
  else if kind = 1 then packed fixedLit fixedDist most B (B.length + 1) p out
  else if kind = 2 then match tables B p with
    | .error e => .error e
    | .ok ((lit, dist), p) => packed lit dist most B (B.length + 1) p out
  else .error 3
noncomputable def blocks (most : Nat) (B : List Bool) : Nat → Nat → List UInt8 → E (List UInt8)
  | 0, _, _ => .error 99
  | f + 1, p, out => match take B 3 p with
    | .error e => .error e
    | .ok (h, p) => match block most B (h / 2) p out with
      | .error e => .error e
      | .ok (out, p) => if h % 2 = 1 then .ok (out, p) else blocks most B f p out
/-- What the bits say, within so many bytes. -/
noncomputable def inf (most : Nat) (B : List Bool) : E (List UInt8) := blocks most B (B.length + 1) 0 []
/-- .. of a text from a place on: what comes out, how many bytes are taken, the error's number. -/
noncomputable def inflate (s : List UInt8) (at_ most : Int) : List UInt8 × Nat × Nat :=
  if at_ < 0 ∨ (s.length : Int) < at_ ∨ most < 0 ∨ 65536 < most then ([], 0, 1)
  else match inf most.toNat (sbits (s.drop at_.toNat)) with
    | .error e => ([], 0, e)
    | .ok (out, p) => (out, (p + 7) / 8, 0)
end InfM

/- The bit reader's other methods, and those above for any number of bits. Conditions as there. -/
set_option linter.unusedVariables false
namespace Go.Proofs.YtllegkmadljmaaaGreatDoor
open Go Vc BitsM Go.Proofs

/-- From 0 to 32. -/
def can (n : Int) : Bool := decide (0 ≤ n ∧ n ≤ 32)
/-- The next multiple of eight. -/
def up8 (n : Nat) : Nat := (n + 7) / 8 * 8
theorem align_spec {b : Nat} {s : ByteArray} {pos : Nat} {from_ : Int} {w : World} (h : Rd w b s pos from_) :
    Calls Tryz.prog F_bitin_Reader_Align #[.pointer (some ⟨b, 0, none⟩)] w fun e w' => e = .returned (.tuple #[]) ∧ Rd w' b s (up8 pos) from_ ∧ Fr (· = b) w w' := by
  obtain ⟨a, h⟩ := h
  refine vc_bitin_Reader_Align_ok (R := fun v w' => v = .tuple #[] ∧ Rd w' b s (up8 pos) from_ ∧ Fr (· = b) w w') ?_ (fun v w' h => ⟨by rw [h.1], h.2⟩)
  have := h.lo; have := h.hi; have := h.sz
  have e0 : Int.tmod ((8 * a - pos : Nat) : Int) 8 = (((8 * a - pos) % 8 : Nat) : Int) := by rw [Int.tmod_eq_emod_of_nonneg (by omega)]; omega
  have e1 : pos + (8 * a - pos) % 8 = up8 pos := by unfold up8; omega
  have e2 : Int.fdiv ((held s a pos : Nat) : Int) (2 ^ min (((8 * a - pos) % 8 : Nat) : Int).toNat 64) = ((held s a (up8 pos) : Nat) : Int) := by
    have hm : min (((8 * a - pos) % 8 : Nat) : Int).toNat 64 = (8 * a - pos) % 8 := by omega
    have hc : (2 : Int) ^ ((8 * a - pos) % 8) = ((2 ^ ((8 * a - pos) % 8) : Nat) : Int) := by push_cast; rfl
    rw [hm, hc, ← e1, ← held_skip, Int.fdiv_eq_ediv_of_nonneg _ (Int.natCast_nonneg _), ← Int.natCast_ediv]
  refine ⟨_, h.c3, by decide, _, h.c2, by rw [e0]; omega, wr_blk h.blk (by simp), ?_⟩
  rw [e0, e2]
  rintro w3 rfl
  have b1 := set_blk h.blk 2 (.int .u64 ((held s a (up8 pos) : Nat) : Int))
  refine ⟨((8 * a - pos : Nat) : Int), by rw [cell_blk b1]; rfl, wr_blk b1 (by simp), ?_⟩
  have e3 : IntKind.i64.wrap (((8 * a - pos : Nat) : Int) - (((8 * a - pos) % 8 : Nat) : Int)) = ((8 * a - up8 pos : Nat) : Int) := by rw [wrap_i64 (by omega) (by omega)]; omega
  rw [e3]
  rintro w5 rfl
  have b2 := set_blk b1 3 (.int .i64 ((8 * a - up8 pos : Nat) : Int))
  exact ⟨rfl, ⟨a, by unfold up8; omega, by unfold up8; omega, h.sz, h.ok, b2⟩, (Fr.set (· = b) _ _ rfl).trans' (.set _ _ _ rfl)⟩

theorem held_zero (s : ByteArray) (a : Nat) : held s a (8 * a) = 0 := Nat.div_eq_of_lt (V_lt s a)

/-- n whole bytes from the next byte's beginning on. -/
theorem rbytes_spec {b : Nat} {s : ByteArray} {pos : Nat} {from_ : Int} {w : World} (h : Rd w b s pos from_) (n : Int) (hn : -9223372036854775808 ≤ n ∧ n ≤ 9223372036854775807) :
    Calls Tryz.prog F_bitin_Reader_Bytes #[.pointer (some ⟨b, 0, none⟩), .int .i64 n] w fun e w' =>
      ((0 ≤ n ∧ 8 * n ≤ ((left s (up8 pos) : Nat) : Int)) ∧ e = .returned (.tuple #[.string (s.extract (up8 pos / 8) (up8 pos / 8 + n.toNat)), .bool true]) ∧ Rd w' b s (up8 pos + 8 * n.toNat) from_ ∧ Fr (· = b) w w') ∨
      (¬ (0 ≤ n ∧ 8 * n ≤ ((left s (up8 pos) : Nat) : Int)) ∧ e = .returned (.tuple #[.string ⟨#[]⟩, .bool false]) ∧ Rd w' b s (up8 pos) from_ ∧ Fr (· = b) w w') := by
  refine vc_bitin_Reader_Bytes_ok (R := fun v w' => ((0 ≤ n ∧ 8 * n ≤ ((left s (up8 pos) : Nat) : Int)) ∧ v = .tuple #[.string (s.extract (up8 pos / 8) (up8 pos / 8 + n.toNat)), .bool true] ∧ Rd w' b s (up8 pos + 8 * n.toNat) from_ ∧ Fr (· = b) w w') ∨
      (¬ (0 ≤ n ∧ 8 * n ≤ ((left s (up8 pos) : Nat) : Int)) ∧ v = .tuple #[.string ⟨#[]⟩, .bool false] ∧ Rd w' b s (up8 pos) from_ ∧ Fr (· = b) w w')) ?_
      (fun v w' h => h.imp (fun h => ⟨h.1, by rw [h.2.1], h.2.2⟩) (fun h => ⟨h.1, by rw [h.2.1], h.2.2⟩))
  refine (align_spec h).mono ?_
  rintro e w2 ⟨rfl, ⟨a, h2⟩, f2⟩
  have := h2.lo; have := h2.hi; have := h2.sz; have := h2.ok
  have hu : up8 pos = 8 * (up8 pos / 8) := by unfold up8; omega
  have e0 : Int.tdiv ((8 * a - up8 pos : Nat) : Int) 8 = ((a - up8 pos / 8 : Nat) : Int) := by rw [Int.tdiv_eq_ediv_of_nonneg (by omega)]; omega
  have e1 : IntKind.i64.wrap ((a : Int) - IntKind.i64.wrap ((a - up8 pos / 8 : Nat) : Int)) = ((up8 pos / 8 : Nat) : Int) := by
    rw [wrap_i64 (x := ((a - up8 pos / 8 : Nat) : Int)) (by omega) (by omega), wrap_i64 (by omega) (by omega)]; omega
  refine ⟨rfl, _, h2.c1, _, h2.c3, by decide, fun w5 d => ?_⟩
  rw [e0, e1]
  have h5 := h2.drew d
  have f5 : Fr (· = b) w w5 := f2.trans' (.drew _ d)
  have hl : left s (up8 pos) = 8 * (s.size - up8 pos / 8) := by unfold left; omega
  have e2 : IntKind.i64.wrap ((s.size : Int) - ((up8 pos / 8 : Nat) : Int)) = ((s.size - up8 pos / 8 : Nat) : Int) := by rw [wrap_i64 (by omega) (by omega)]; omega
  refine ⟨fun hneg => .inr ⟨?_, rfl, ⟨a, h5⟩, f5⟩, fun hpos => ⟨_, h5.c0, fun hbig => .inr ⟨?_, rfl, ⟨a, h5⟩, f5⟩, fun hfit => ?_⟩⟩
  · have hneg := of_decide_eq_true hneg; omega
  · have hbig := of_decide_eq_true hbig
    rw [e2] at hbig; omega
  have hpos := of_decide_eq_false hpos
  have hfit := of_decide_eq_false hfit
  rw [e2] at hfit
  obtain ⟨m, rfl⟩ := Int.eq_ofNat_of_zero_le (show 0 ≤ n by omega)
  have e3 : IntKind.i64.wrap (((up8 pos / 8 : Nat) : Int) + (m : Int)) = ((up8 pos / 8 + m : Nat) : Int) := by rw [wrap_i64 (by omega) (by omega)]; omega
  rw [e3]
  refine ⟨wr_blk h5.blk (by simp), ?_⟩
  rintro w7 rfl
  have b1 := set_blk h5.blk 1 (.int .i64 ((up8 pos / 8 + m : Nat) : Int))
  refine ⟨wr_blk b1 (by simp), ?_⟩
  rintro w8 rfl
  have b2 := set_blk b1 2 (.int .u64 0)
  refine ⟨wr_blk b2 (by simp), ?_⟩
  rintro w9 rfl
  have b3 := set_blk b2 3 (.int .i64 0)
  refine ⟨s, by rw [cell_blk b3]; rfl, ⟨by omega, by omega, by omega⟩, .inl ⟨by omega, ?_, ⟨up8 pos / 8 + m, by simp only [Int.toNat_natCast]; omega, by simp only [Int.toNat_natCast]; omega, by omega, h5.ok, ?_⟩, ?_⟩⟩
  · simp only [Int.toNat_natCast]
  · have e4 : up8 pos + 8 * ((m : Int)).toNat = 8 * (up8 pos / 8 + m) := by rw [Int.toNat_natCast]; omega
    rw [e4, RdO, held_zero, Nat.sub_self]
    exact b3
  · exact ((f5.trans' (.set _ _ _ rfl)).trans' (.set _ _ _ rfl)).trans' (.set _ _ _ rfl)
end Go.Proofs.YtllegkmadljmaaaGreatDoor

/- Formulas of 1 Go functions of this seat (written by a program of the author's, vcgen.py), and that each is enough for the call. No condition. -/
set_option linter.unusedVariables false
namespace Go.Proofs.YtllegkmadljmaaaGreatDoor
open Go Vc Go.Proofs
set_option maxRecDepth 100000
def vc_sums_FromLittle (x0 : ByteArray) (w : World) (R : Value → World → Prop) : Prop :=
 ∃ I1 : Int → Int → World → Prop, ∃ I2 : Int → Int → World → Nat, (I1 0 0 w ∧
 ∀ n3 : Int,
 ∀ n4 : Int,
 ∀ w5 : World,
 (I1 n3 n4 w5 →
 ((((decide (n4 < if 8 < (↑(ByteArray.size x0) : Int) then 8 else (↑(ByteArray.size x0) : Int)) = true) →
 ((0 ≤ n4 ∧
 n4 < (↑(ByteArray.size x0) : Int)) ∧
 (0 ≤ IntKind.wrap .i64 (8 * n4) ∧
 (I1 (IntKind.wrap .u64 (↑(BitVec.toNat (BitVec.ofInt 64 n3 ||| BitVec.ofInt 64 (IntKind.wrap .u64 (IntKind.wrap .u64 (byteAt x0 n4) * 2 ^ min (Int.toNat (IntKind.wrap .i64 (8 * n4))) 64)))) : Int)) (IntKind.wrap .i64 (n4 + 1)) w5 ∧
 I2 (IntKind.wrap .u64 (↑(BitVec.toNat (BitVec.ofInt 64 n3 ||| BitVec.ofInt 64 (IntKind.wrap .u64 (IntKind.wrap .u64 (byteAt x0 n4) * 2 ^ min (Int.toNat (IntKind.wrap .i64 (8 * n4))) 64)))) : Int)) (IntKind.wrap .i64 (n4 + 1)) w5 < I2 n3 n4 w5))))) ∧
 ((decide (n4 < if 8 < (↑(ByteArray.size x0) : Int) then 8 else (↑(ByteArray.size x0) : Int)) = false) →
 R (Value.int .u64 n3) w5))))
theorem vc_sums_FromLittle_ok {x0 : ByteArray} {w : World} {R : Value → World → Prop} {R' : Ending → World → Prop} (h : vc_sums_FromLittle x0 w R) (hR : ∀ v w', R v w' → R' (.returned v) w') :
    Calls Tryz.prog 214 #[.string x0] w R' :=
  calls_of_body (vs := [(.string x0, false)]) (ty := ty) (ann := ⟨[], [(3, [(3, .int .u64), (8, .int .i64)])], [], []⟩) (c := Tryz.f214.body.getD .skip) (by kernel_rfl) Tryz.func214 (by kernel_rfl) (by kernel_rfl) (Eq.mp (by kernel_rfl) h) hR
end Go.Proofs.YtllegkmadljmaaaGreatDoor

/- Formulas of 10 Go functions of this seat (written by a program of the author's, vcgen.py), and that each is enough for the call. No condition. -/
set_option linter.unusedVariables false
namespace Go.Proofs.YtllegkmadljmaaaGreatDoor
open Go Vc Go.Proofs
set_option maxRecDepth 100000
def vc_inflate_order (w : World) (R : Value → World → Prop) : Prop :=
 ∀ w1 : World,
 (w1 = World.alloc w (Obj.cells (Array.mk [Value.int .i64 0, Value.int .i64 0, Value.int .i64 0, Value.int .i64 0, Value.int .i64 0, Value.int .i64 0, Value.int .i64 0, Value.int .i64 0, Value.int .i64 0, Value.int .i64 0, Value.int .i64 0, Value.int .i64 0, Value.int .i64 0, Value.int .i64 0, Value.int .i64 0, Value.int .i64 0, Value.int .i64 0, Value.int .i64 0, Value.int .i64 0]) 295) →
 ∃ w2 : World, (Sem.run Tryz.prog (storeVar 295 (Addr.mk (Array.size (World.heap w)) 0 none) (Value.agg (Array.mk [Value.int .i64 16, Value.int .i64 17, Value.int .i64 18, Value.int .i64 0, Value.int .i64 8, Value.int .i64 7, Value.int .i64 9, Value.int .i64 6, Value.int .i64 10, Value.int .i64 5, Value.int .i64 11, Value.int .i64 4, Value.int .i64 12, Value.int .i64 3, Value.int .i64 13, Value.int .i64 2, Value.int .i64 14, Value.int .i64 1, Value.int .i64 15]))) w1 = Result.ok PUnit.unit w2 ∧
 ∃ v3 : Value, (Sem.run Tryz.prog (loadVar 295 (Addr.mk (Array.size (World.heap w)) 0 none)) w2 = Result.ok v3 w2 ∧
 R v3 w2)))
theorem vc_inflate_order_ok {w : World} {R : Value → World → Prop} {R' : Ending → World → Prop} (h : vc_inflate_order w R) (hR : ∀ v w', R v w' → R' (.returned v) w') :
    Calls Tryz.prog 216 #[] w R' :=
  calls_of_body (vs := []) (ty := ty) (ann := ⟨[], [], [], []⟩) (c := Tryz.f216.body.getD .skip) (by kernel_rfl) Tryz.func216 (by kernel_rfl) (by kernel_rfl) (Eq.mp (by kernel_rfl) h) hR
def vc_inflate_lengthBase (x0 : Int) (w : World) (R : Value → World → Prop) : Prop :=
 ((((x0 == 28) = true →
 R (Value.tuple (Array.mk [Value.int .i64 258, Value.int .i64 0])) w)) ∧
 ((x0 == 28) = false →
 (((decide (x0 < 8) = true →
 R (Value.tuple (Array.mk [Value.int .i64 (IntKind.wrap .i64 (3 + x0)), Value.int .i64 0])) w)) ∧
 (decide (x0 < 8) = false →
 ((4 : Int) ≠ (0 : Int) ∧
 ((4 : Int) ≠ (0 : Int) ∧
 (0 ≤ IntKind.wrap .i64 (IntKind.wrap .i64 (Int.tdiv x0 4) - 1) ∧
 R (Value.tuple (Array.mk [Value.int .i64 (IntKind.wrap .i64 (3 + IntKind.wrap .i64 (IntKind.wrap .i64 (4 + Int.tmod x0 4) * 2 ^ min (Int.toNat (IntKind.wrap .i64 (IntKind.wrap .i64 (Int.tdiv x0 4) - 1))) 64))), Value.int .i64 (IntKind.wrap .i64 (IntKind.wrap .i64 (Int.tdiv x0 4) - 1))])) w)))))))
theorem vc_inflate_lengthBase_ok {x0 : Int} {w : World} {R : Value → World → Prop} {R' : Ending → World → Prop} (h : vc_inflate_lengthBase x0 w R) (hR : ∀ v w', R v w' → R' (.returned v) w') :
    Calls Tryz.prog 109 #[.int .i64 x0] w R' :=
  calls_of_body (vs := [(.int .i64 x0, false)]) (ty := ty) (ann := ⟨[], [], [], []⟩) (c := Tryz.f109.body.getD .skip) (by kernel_rfl) Tryz.func109 (by kernel_rfl) (by kernel_rfl) (Eq.mp (by kernel_rfl) h) hR
def vc_inflate_distBase (x0 : Int) (w : World) (R : Value → World → Prop) : Prop :=
 (((decide (x0 < 4) = true →
 R (Value.tuple (Array.mk [Value.int .i64 (IntKind.wrap .i64 (1 + x0)), Value.int .i64 0])) w)) ∧
 (decide (x0 < 4) = false →
 ((2 : Int) ≠ (0 : Int) ∧
 ((2 : Int) ≠ (0 : Int) ∧
 (0 ≤ IntKind.wrap .i64 (IntKind.wrap .i64 (Int.tdiv x0 2) - 1) ∧
 R (Value.tuple (Array.mk [Value.int .i64 (IntKind.wrap .i64 (1 + IntKind.wrap .i64 (IntKind.wrap .i64 (2 + Int.tmod x0 2) * 2 ^ min (Int.toNat (IntKind.wrap .i64 (IntKind.wrap .i64 (Int.tdiv x0 2) - 1))) 64))), Value.int .i64 (IntKind.wrap .i64 (IntKind.wrap .i64 (Int.tdiv x0 2) - 1))])) w)))))
theorem vc_inflate_distBase_ok {x0 : Int} {w : World} {R : Value → World → Prop} {R' : Ending → World → Prop} (h : vc_inflate_distBase x0 w R) (hR : ∀ v w', R v w' → R' (.returned v) w') :
    Calls Tryz.prog 110 #[.int .i64 x0] w R' :=
  calls_of_body (vs := [(.int .i64 x0, false)]) (ty := ty) (ann := ⟨[], [], [], []⟩) (c := Tryz.f110.body.getD .skip) (by kernel_rfl) Tryz.func110 (by kernel_rfl) (by kernel_rfl) (Eq.mp (by kernel_rfl) h) hR
def vc_inflate_state_put (x0 : Nat) (x1 : Int) (w : World) (R : Value → World → Prop) : Prop :=
 ∃ l1 : Sl, (World.cell? w (Addr.mk x0 1 none) = some (Value.slice l1.1 l1.2 l1.3) ∧
 ∃ n2 : Int, (World.cell? w (Addr.mk x0 2 none) = some (Value.int .i64 n2) ∧
 ∀ w3 : World,
 (Drew w w3 →
 (((((↑l1.2 : Int) == n2) = true →
 R (Value.int .i64 2) w3)) ∧
 (((↑l1.2 : Int) == n2) = false →
 ∃ l4 : Sl, (World.cell? w3 (Addr.mk x0 1 none) = some (Value.slice l4.1 l4.2 l4.3) ∧
 ∀ w5 : World,
 (w5 = World.alloc w3 (Obj.cells (Array.mk [Value.int .u8 x1]) 5) →
 ∃ w6 : World, ∃ l7 : Sl, (Sem.run Tryz.prog (Builtin.append_ (Array.mk [108, 108]) 108 (Array.mk [Value.slice l4.1 l4.2 l4.3, Value.slice (some (Addr.mk (Array.size (World.heap w3)) 0 none)) 1 1])) w5 = Result.ok (Value.slice l7.1 l7.2 l7.3) w6 ∧
 (Wr w6 (Addr.mk x0 1 none) ∧
 ∀ w8 : World,
 (w8 = World.setCell w6 (Addr.mk x0 1 none) (Value.slice l7.1 l7.2 l7.3) →
 R (Value.int .i64 0) w8))))))))))
theorem vc_inflate_state_put_ok {x0 : Nat} {x1 : Int} {w : World} {R : Value → World → Prop} {R' : Ending → World → Prop} (h : vc_inflate_state_put x0 x1 w R) (hR : ∀ v w', R v w' → R' (.returned v) w') :
    Calls Tryz.prog 207 #[.pointer (some ⟨x0, 0, none⟩), .int .u8 x1] w R' :=
  calls_of_body (vs := [(.pointer (some ⟨x0, 0, none⟩), true), (.int .u8 x1, false)]) (ty := ty) (ann := ⟨[], [], [(1, .quiet)], []⟩) (c := Tryz.f207.body.getD .skip) (by kernel_rfl) Tryz.func207 (by kernel_rfl) (by kernel_rfl) (Eq.mp (by kernel_rfl) h) hR
def vc_inflate_fixed (w : World) (R : Value → World → Prop) : Prop :=
 ∃ I1 : Sl → Int → World → Prop, ∃ I2 : Sl → Int → World → Nat, (I1 (Sl.mk none 0 0) 0 w ∧
 ∀ l3 : Sl,
 ∀ n4 : Int,
 ∀ w5 : World,
 (I1 l3 n4 w5 →
 (((decide (n4 < 288) = true →
 ∃ I6 : Bool → World → Prop, ((((decide (n4 < 144) = true →
 I6 (decide (n4 < 144)) w5)) ∧
 (decide (n4 < 144) = false →
 I6 (decide (n4 ≥ 280)) w5)) ∧
 ∀ b7 : Bool,
 ∀ w8 : World,
 (I6 b7 w8 →
 (((b7 = true →
 ∀ w9 : World,
 (w9 = World.alloc w8 (Obj.cells (Array.mk [Value.int .i64 8]) 3) →
 ∃ w10 : World, ∃ l11 : Sl, (Sem.run Tryz.prog (Builtin.append_ (Array.mk [209, 209]) 209 (Array.mk [Value.slice l3.1 l3.2 l3.3, Value.slice (some (Addr.mk (Array.size (World.heap w8)) 0 none)) 1 1])) w9 = Result.ok (Value.slice l11.1 l11.2 l11.3) w10 ∧
 (I1 (Sl.mk l11.1 l11.2 l11.3) (IntKind.wrap .i64 (n4 + 1)) w10 ∧
 I2 (Sl.mk l11.1 l11.2 l11.3) (IntKind.wrap .i64 (n4 + 1)) w10 < I2 l3 n4 w5))))) ∧
 (b7 = false →
 (((decide (n4 < 256) = true →
 ∀ w12 : World,
 (w12 = World.alloc w8 (Obj.cells (Array.mk [Value.int .i64 9]) 3) →
 ∃ w13 : World, ∃ l14 : Sl, (Sem.run Tryz.prog (Builtin.append_ (Array.mk [209, 209]) 209 (Array.mk [Value.slice l3.1 l3.2 l3.3, Value.slice (some (Addr.mk (Array.size (World.heap w8)) 0 none)) 1 1])) w12 = Result.ok (Value.slice l14.1 l14.2 l14.3) w13 ∧
 (I1 (Sl.mk l14.1 l14.2 l14.3) (IntKind.wrap .i64 (n4 + 1)) w13 ∧
 I2 (Sl.mk l14.1 l14.2 l14.3) (IntKind.wrap .i64 (n4 + 1)) w13 < I2 l3 n4 w5))))) ∧
 (decide (n4 < 256) = false →
 ∀ w15 : World,
 (w15 = World.alloc w8 (Obj.cells (Array.mk [Value.int .i64 7]) 3) →
 ∃ w16 : World, ∃ l17 : Sl, (Sem.run Tryz.prog (Builtin.append_ (Array.mk [209, 209]) 209 (Array.mk [Value.slice l3.1 l3.2 l3.3, Value.slice (some (Addr.mk (Array.size (World.heap w8)) 0 none)) 1 1])) w15 = Result.ok (Value.slice l17.1 l17.2 l17.3) w16 ∧
 (I1 (Sl.mk l17.1 l17.2 l17.3) (IntKind.wrap .i64 (n4 + 1)) w16 ∧
 I2 (Sl.mk l17.1 l17.2 l17.3) (IntKind.wrap .i64 (n4 + 1)) w16 < I2 l3 n4 w5))))))))))) ∧
 (decide (n4 < 288) = false →
 ∃ I18 : Sl → Int → World → Prop, ∃ I19 : Sl → Int → World → Nat, (I18 (Sl.mk none 0 0) 0 w5 ∧
 ∀ l20 : Sl,
 ∀ n21 : Int,
 ∀ w22 : World,
 (I18 l20 n21 w22 →
 (((decide (n21 < 32) = true →
 ∀ w23 : World,
 (w23 = World.alloc w22 (Obj.cells (Array.mk [Value.int .i64 5]) 3) →
 ∃ w24 : World, ∃ l25 : Sl, (Sem.run Tryz.prog (Builtin.append_ (Array.mk [209, 209]) 209 (Array.mk [Value.slice l20.1 l20.2 l20.3, Value.slice (some (Addr.mk (Array.size (World.heap w22)) 0 none)) 1 1])) w23 = Result.ok (Value.slice l25.1 l25.2 l25.3) w24 ∧
 (I18 (Sl.mk l25.1 l25.2 l25.3) (IntKind.wrap .i64 (n21 + 1)) w24 ∧
 I19 (Sl.mk l25.1 l25.2 l25.3) (IntKind.wrap .i64 (n21 + 1)) w24 < I19 l20 n21 w22))))) ∧
 (decide (n21 < 32) = false →
 Calls Tryz.prog (147 : Nat) (Array.mk [Value.slice l3.1 l3.2 l3.3]) (w22) (fun e26 w27 =>
 ∃ p28 : Option Addr, ∃ n29 : Int, (e26 = Ending.returned (Value.tuple (Array.mk [Value.pointer p28, Value.int .i64 n29])) ∧
 Calls Tryz.prog (147 : Nat) (Array.mk [Value.slice l20.1 l20.2 l20.3]) (w27) (fun e30 w31 =>
 ∃ p32 : Option Addr, ∃ n33 : Int, (e30 = Ending.returned (Value.tuple (Array.mk [Value.pointer p32, Value.int .i64 n33])) ∧
 R (Value.tuple (Array.mk [Value.pointer p28, Value.pointer p32])) w31))))))))))))
theorem vc_inflate_fixed_ok {w : World} {R : Value → World → Prop} {R' : Ending → World → Prop} (h : vc_inflate_fixed w R) (hR : ∀ v w', R v w' → R' (.returned v) w') :
    Calls Tryz.prog 104 #[] w R' :=
  calls_of_body (vs := []) (ty := ty) (ann := ⟨[(8, [(15, .bool)])], [(3, [(2, .slice), (9, .int .i64)]), (13, [(3, .slice), (30, .int .i64)])], [], []⟩) (c := Tryz.f104.body.getD .skip) (by kernel_rfl) Tryz.func104 (by kernel_rfl) (by kernel_rfl) (Eq.mp (by kernel_rfl) h) hR
def vc_inflate_state_stored (x0 : Nat) (w : World) (R : Value → World → Prop) : Prop :=
 ∃ p1 : Option Addr, (World.cell? w (Addr.mk x0 0 none) = some (Value.pointer p1) ∧
 Calls Tryz.prog (213 : Nat) (Array.mk [Value.pointer p1, Value.int .i64 4]) (w) (fun e2 w3 =>
 ∃ s4 : ByteArray, ∃ b5 : Bool, (e2 = Ending.returned (Value.tuple (Array.mk [Value.string s4, Value.bool b5])) ∧
 ((((!b5) = true →
 R (Value.int .i64 6) w3)) ∧
 ((!b5) = false →
 (((0 : Int) ≤ (2 : Int) ∧
 2 ≤ (↑(ByteArray.size s4) : Int)) ∧
 Calls Tryz.prog (214 : Nat) (Array.mk [Value.string (ByteArray.extract s4 0 (Int.toNat 2))]) (w3) (fun e6 w7 =>
 ∃ n8 : Int, (e6 = Ending.returned (Value.int .u64 n8) ∧
 (((0 : Int) ≤ (2 : Int) ∧
 2 ≤ (↑(ByteArray.size s4) : Int)) ∧
 Calls Tryz.prog (214 : Nat) (Array.mk [Value.string (ByteArray.extract s4 (Int.toNat 2) (ByteArray.size s4))]) (w7) (fun e9 w10 =>
 ∃ n11 : Int, (e9 = Ending.returned (Value.int .u64 n11) ∧
 ((((IntKind.wrap .i64 (↑(BitVec.toNat (BitVec.ofInt 64 (IntKind.wrap .i64 n8) ^^^ BitVec.ofInt 64 65535)) : Int) != IntKind.wrap .i64 n11) = true →
 R (Value.int .i64 3) w10)) ∧
 ((IntKind.wrap .i64 (↑(BitVec.toNat (BitVec.ofInt 64 (IntKind.wrap .i64 n8) ^^^ BitVec.ofInt 64 65535)) : Int) != IntKind.wrap .i64 n11) = false →
 ∃ p12 : Option Addr, (World.cell? w10 (Addr.mk x0 0 none) = some (Value.pointer p12) ∧
 Calls Tryz.prog (213 : Nat) (Array.mk [Value.pointer p12, Value.int .i64 (IntKind.wrap .i64 n8)]) (w10) (fun e13 w14 =>
 ∃ s15 : ByteArray, ∃ b16 : Bool, (e13 = Ending.returned (Value.tuple (Array.mk [Value.string s15, Value.bool b16])) ∧
 ∃ I17 : ByteArray → World → Prop, (((((!b16) = true →
 ∀ w18 : World,
 (Drew w14 w18 →
 ∃ I19 : World → Prop, (I19 w18 ∧
 ∃ p20 : Option Addr, ((∀ w21 : World,
 (I19 w21 →
 World.cell? w21 (Addr.mk x0 0 none) = some (Value.pointer p20))) ∧
 ∃ p22 : Option Addr, ((∀ w23 : World,
 (I19 w23 →
 World.cell? w23 (Addr.mk x0 0 none) = some (Value.pointer p22))) ∧
 Calls Tryz.prog (215 : Nat) (Array.mk [Value.pointer p22]) (w18) (fun e24 w25 =>
 ∃ n26 : Int, (e24 = Ending.returned (Value.int .i64 n26) ∧
 (I19 w25 ∧
 ((8 : Int) ≠ (0 : Int) ∧
 Calls Tryz.prog (213 : Nat) (Array.mk [Value.pointer p20, Value.int .i64 (IntKind.wrap .i64 (Int.tdiv n26 8))]) (w25) (fun e27 w28 =>
 ∃ s29 : ByteArray, ∃ b30 : Bool, (e27 = Ending.returned (Value.tuple (Array.mk [Value.string s29, Value.bool b30])) ∧
 (I19 w28 ∧
 I17 s29 w28))))))))))))) ∧
 ((!b16) = false →
 I17 s15 w14)) ∧
 ∀ s31 : ByteArray,
 ∀ w32 : World,
 (I17 s31 w32 →
 ∃ n33 : Int, (World.cell? w32 (Addr.mk x0 2 none) = some (Value.int .i64 n33) ∧
 ∃ l34 : Sl, (World.cell? w32 (Addr.mk x0 1 none) = some (Value.slice l34.1 l34.2 l34.3) ∧
 ∀ w35 : World,
 (Drew w32 w35 →
 (((decide ((↑(ByteArray.size s31) : Int) > IntKind.wrap .i64 (n33 - (↑l34.2 : Int))) = true →
 R (Value.int .i64 2) w35)) ∧
 (decide ((↑(ByteArray.size s31) : Int) > IntKind.wrap .i64 (n33 - (↑l34.2 : Int))) = false →
 ∃ l36 : Sl, (World.cell? w35 (Addr.mk x0 1 none) = some (Value.slice l36.1 l36.2 l36.3) ∧
 ∃ w37 : World, ∃ l38 : Sl, (Sem.run Tryz.prog (Builtin.append_ (Array.mk [108, 9]) 108 (Array.mk [Value.slice l36.1 l36.2 l36.3, Value.string s31])) w35 = Result.ok (Value.slice l38.1 l38.2 l38.3) w37 ∧
 (Wr w37 (Addr.mk x0 1 none) ∧
 ∀ w39 : World,
 (w39 = World.setCell w37 (Addr.mk x0 1 none) (Value.slice l38.1 l38.2 l38.3) →
 ((((!b16) = true →
 R (Value.int .i64 6) w39)) ∧
 ((!b16) = false →
 R (Value.int .i64 0) w39)))))))))))))))))))))))))))))
theorem vc_inflate_state_stored_ok {x0 : Nat} {w : World} {R : Value → World → Prop} {R' : Ending → World → Prop} (h : vc_inflate_state_stored x0 w R) (hR : ∀ v w', R v w' → R' (.returned v) w') :
    Calls Tryz.prog 204 #[.pointer (some ⟨x0, 0, none⟩)] w R' :=
  calls_of_body (vs := [(.pointer (some ⟨x0, 0, none⟩), true)]) (ty := ty) (ann := ⟨[(10, [(6, .str)])], [], [(9, .held [(0, true), (1, true), (2, true), (3, true), (4, true), (5, true), (6, true), (7, true), (8, false), (9, true), (10, false), (11, true), (12, true), (13, true), (14, true)]), (10, .quiet)], []⟩) (c := Tryz.f204.body.getD .skip) (by kernel_rfl) Tryz.func204 (by kernel_rfl) (by kernel_rfl) (Eq.mp (by kernel_rfl) h) hR
def vc_inflate_state_tables (x0 : Nat) (w : World) (R : Value → World → Prop) : Prop :=
 ∃ p1 : Option Addr, (World.cell? w (Addr.mk x0 0 none) = some (Value.pointer p1) ∧
 Calls Tryz.prog (203 : Nat) (Array.mk [Value.pointer p1, Value.int .i64 14]) (w) (fun e2 w3 =>
 ∃ n4 : Int, ∃ b5 : Bool, (e2 = Ending.returned (Value.tuple (Array.mk [Value.int .u32 n4, Value.bool b5])) ∧
 ((((!b5) = true →
 R (Value.tuple (Array.mk [Value.pointer none, Value.pointer none, Value.int .i64 6])) w3)) ∧
 ((!b5) = false →
 ((0 : Int) ≤ (5 : Int) ∧
 ((0 : Int) ≤ (10 : Int) ∧
 (((decide (IntKind.wrap .i64 (IntKind.wrap .i64 (IntKind.wrap .u32 (↑(BitVec.toNat (BitVec.ofInt 32 n4 &&& BitVec.ofInt 32 31)) : Int)) + 257) > 286) = true →
 R (Value.tuple (Array.mk [Value.pointer none, Value.pointer none, Value.int .i64 3])) w3)) ∧
 (decide (IntKind.wrap .i64 (IntKind.wrap .i64 (IntKind.wrap .u32 (↑(BitVec.toNat (BitVec.ofInt 32 n4 &&& BitVec.ofInt 32 31)) : Int)) + 257) > 286) = false →
 (((decide (IntKind.wrap .i64 (IntKind.wrap .i64 (IntKind.wrap .u32 (↑(BitVec.toNat (BitVec.ofInt 32 (Int.fdiv n4 (2 ^ min (Int.toNat 5) 32)) &&& BitVec.ofInt 32 31)) : Int)) + 1) > 30) = true →
 R (Value.tuple (Array.mk [Value.pointer none, Value.pointer none, Value.int .i64 3])) w3)) ∧
 (decide (IntKind.wrap .i64 (IntKind.wrap .i64 (IntKind.wrap .u32 (↑(BitVec.toNat (BitVec.ofInt 32 (Int.fdiv n4 (2 ^ min (Int.toNat 5) 32)) &&& BitVec.ofInt 32 31)) : Int)) + 1) > 30) = false →
 ∃ w6 : World, ∃ l7 : Sl, (Sem.run Tryz.prog (Instr.makeSlice 209 (Value.int .i64 19) (Value.int .i64 19)) w3 = Result.ok (Value.slice l7.1 l7.2 l7.3) w6 ∧
 ∃ I8 : Int → World → Prop, ∃ I9 : Int → World → Nat, (I8 0 w6 ∧
 ∀ n10 : Int,
 ∀ w11 : World,
 (I8 n10 w11 →
 (((decide (n10 < IntKind.wrap .i64 (IntKind.wrap .i64 (Int.fdiv n4 (2 ^ min (Int.toNat 10) 32)) + 4)) = true →
 ∃ p12 : Option Addr, (World.cell? w11 (Addr.mk x0 0 none) = some (Value.pointer p12) ∧
 Calls Tryz.prog (203 : Nat) (Array.mk [Value.pointer p12, Value.int .i64 3]) (w11) (fun e13 w14 =>
 ∃ n15 : Int, ∃ b16 : Bool, (e13 = Ending.returned (Value.tuple (Array.mk [Value.int .u32 n15, Value.bool b16])) ∧
 ((((!b16) = true →
 R (Value.tuple (Array.mk [Value.pointer none, Value.pointer none, Value.int .i64 6])) w14)) ∧
 ((!b16) = false →
 Calls Tryz.prog (216 : Nat) (Array.mk []) (w14) (fun e17 w18 =>
 ∃ v19 : Value, (e17 = Ending.returned v19 ∧
 ∃ w20 : World, ∃ n21 : Int, (Sem.run Tryz.prog (Instr.index 295 v19 (Value.int .i64 n10)) w18 = Result.ok (Value.int .i64 n21) w20 ∧
 ((0 ≤ n21 ∧
 n21 < (↑l7.2 : Int)) ∧
 ∃ a22 : Addr, (l7.1 = some a22 ∧
 (Wr w20 (Addr.add a22 (Int.toNat n21 * 1)) ∧
 ∀ w23 : World,
 (w23 = World.setCell w20 (Addr.add a22 (Int.toNat n21 * 1)) (Value.int .i64 (IntKind.wrap .i64 n15)) →
 (I8 (IntKind.wrap .i64 (n10 + 1)) w23 ∧
 I9 (IntKind.wrap .i64 (n10 + 1)) w23 < I9 n10 w11))))))))))))))) ∧
 (decide (n10 < IntKind.wrap .i64 (IntKind.wrap .i64 (Int.fdiv n4 (2 ^ min (Int.toNat 10) 32)) + 4)) = false →
 Calls Tryz.prog (147 : Nat) (Array.mk [Value.slice l7.1 l7.2 l7.3]) (w11) (fun e24 w25 =>
 ∃ p26 : Option Addr, ∃ n27 : Int, (e24 = Ending.returned (Value.tuple (Array.mk [Value.pointer p26, Value.int .i64 n27])) ∧
 ((((n27 != 0) = true →
 R (Value.tuple (Array.mk [Value.pointer none, Value.pointer none, Value.int .i64 3])) w25)) ∧
 ((n27 != 0) = false →
 ∃ I28 : Sl → World → Prop, ∃ I29 : Sl → World → Nat, (I28 (Sl.mk none 0 0) w25 ∧
 ∀ l30 : Sl,
 ∀ w31 : World,
 (I28 l30 w31 →
 (((decide ((↑l30.2 : Int) < IntKind.wrap .i64 (IntKind.wrap .i64 (IntKind.wrap .i64 (IntKind.wrap .u32 (↑(BitVec.toNat (BitVec.ofInt 32 n4 &&& BitVec.ofInt 32 31)) : Int)) + 257) + IntKind.wrap .i64 (IntKind.wrap .i64 (IntKind.wrap .u32 (↑(BitVec.toNat (BitVec.ofInt 32 (Int.fdiv n4 (2 ^ min (Int.toNat 5) 32)) &&& BitVec.ofInt 32 31)) : Int)) + 1))) = true →
 ∃ p32 : Option Addr, (World.cell? w31 (Addr.mk x0 0 none) = some (Value.pointer p32) ∧
 Calls Tryz.prog (206 : Nat) (Array.mk [Value.pointer p26, Value.pointer p32]) (w31) (fun e33 w34 =>
 ∃ n35 : Int, ∃ n36 : Int, (e33 = Ending.returned (Value.tuple (Array.mk [Value.int .i64 n35, Value.int .i64 n36])) ∧
 ((((n36 != 0) = true →
 R (Value.tuple (Array.mk [Value.pointer none, Value.pointer none, Value.int .i64 n36])) w34)) ∧
 ((n36 != 0) = false →
 (((decide (n35 < 16) = true →
 ∀ w37 : World,
 (w37 = World.alloc w34 (Obj.cells (Array.mk [Value.int .i64 n35]) 3) →
 ∃ w38 : World, ∃ l39 : Sl, (Sem.run Tryz.prog (Builtin.append_ (Array.mk [209, 209]) 209 (Array.mk [Value.slice l30.1 l30.2 l30.3, Value.slice (some (Addr.mk (Array.size (World.heap w34)) 0 none)) 1 1])) w37 = Result.ok (Value.slice l39.1 l39.2 l39.3) w38 ∧
 (I28 (Sl.mk l39.1 l39.2 l39.3) w38 ∧
 I29 (Sl.mk l39.1 l39.2 l39.3) w38 < I29 l30 w31))))) ∧
 (decide (n35 < 16) = false →
 ∃ I40 : Int → Int → Int → World → Prop, (((((n35 == 16) = true →
 (((((↑l30.2 : Int) == 0) = true →
 R (Value.tuple (Array.mk [Value.pointer none, Value.pointer none, Value.int .i64 3])) w34)) ∧
 (((↑l30.2 : Int) == 0) = false →
 ((0 ≤ IntKind.wrap .i64 ((↑l30.2 : Int) - 1) ∧
 IntKind.wrap .i64 ((↑l30.2 : Int) - 1) < (↑l30.2 : Int)) ∧
 ∃ a41 : Addr, (l30.1 = some a41 ∧
 ∃ n42 : Int, (World.cell? w34 (Addr.add a41 (Int.toNat (IntKind.wrap .i64 ((↑l30.2 : Int) - 1)) * 1)) = some (Value.int .i64 n42) ∧
 I40 2 3 n42 w34))))))) ∧
 ((n35 == 16) = false →
 ((((n35 == 17) = true →
 I40 3 3 0 w34)) ∧
 ((n35 == 17) = false →
 I40 7 11 0 w34)))) ∧
 ∀ n43 : Int,
 ∀ n44 : Int,
 ∀ n45 : Int,
 ∀ w46 : World,
 (I40 n43 n44 n45 w46 →
 ∃ p47 : Option Addr, (World.cell? w46 (Addr.mk x0 0 none) = some (Value.pointer p47) ∧
 Calls Tryz.prog (203 : Nat) (Array.mk [Value.pointer p47, Value.int .i64 n43]) (w46) (fun e48 w49 =>
 ∃ n50 : Int, ∃ b51 : Bool, (e48 = Ending.returned (Value.tuple (Array.mk [Value.int .u32 n50, Value.bool b51])) ∧
 ((((!b51) = true →
 R (Value.tuple (Array.mk [Value.pointer none, Value.pointer none, Value.int .i64 6])) w49)) ∧
 ((!b51) = false →
 (((decide (IntKind.wrap .i64 (IntKind.wrap .i64 ((↑l30.2 : Int) + n44) + IntKind.wrap .i64 n50) > IntKind.wrap .i64 (IntKind.wrap .i64 (IntKind.wrap .i64 (IntKind.wrap .u32 (↑(BitVec.toNat (BitVec.ofInt 32 n4 &&& BitVec.ofInt 32 31)) : Int)) + 257) + IntKind.wrap .i64 (IntKind.wrap .i64 (IntKind.wrap .u32 (↑(BitVec.toNat (BitVec.ofInt 32 (Int.fdiv n4 (2 ^ min (Int.toNat 5) 32)) &&& BitVec.ofInt 32 31)) : Int)) + 1))) = true →
 R (Value.tuple (Array.mk [Value.pointer none, Value.pointer none, Value.int .i64 3])) w49)) ∧
 (decide (IntKind.wrap .i64 (IntKind.wrap .i64 ((↑l30.2 : Int) + n44) + IntKind.wrap .i64 n50) > IntKind.wrap .i64 (IntKind.wrap .i64 (IntKind.wrap .i64 (IntKind.wrap .u32 (↑(BitVec.toNat (BitVec.ofInt 32 n4 &&& BitVec.ofInt 32 31)) : Int)) + 257) + IntKind.wrap .i64 (IntKind.wrap .i64 (IntKind.wrap .u32 (↑(BitVec.toNat (BitVec.ofInt 32 (Int.fdiv n4 (2 ^ min (Int.toNat 5) 32)) &&& BitVec.ofInt 32 31)) : Int)) + 1))) = false →
 ∃ I52 : Sl → Int → World → Prop, ∃ I53 : Sl → Int → World → Nat, (I52 (Sl.mk l30.1 l30.2 l30.3) 0 w49 ∧
 ∀ l54 : Sl,
 ∀ n55 : Int,
 ∀ w56 : World,
 (I52 l54 n55 w56 →
 (((decide (n55 < IntKind.wrap .i64 (n44 + IntKind.wrap .i64 n50)) = true →
 ∀ w57 : World,
 (w57 = World.alloc w56 (Obj.cells (Array.mk [Value.int .i64 n45]) 3) →
 ∃ w58 : World, ∃ l59 : Sl, (Sem.run Tryz.prog (Builtin.append_ (Array.mk [209, 209]) 209 (Array.mk [Value.slice l54.1 l54.2 l54.3, Value.slice (some (Addr.mk (Array.size (World.heap w56)) 0 none)) 1 1])) w57 = Result.ok (Value.slice l59.1 l59.2 l59.3) w58 ∧
 (I52 (Sl.mk l59.1 l59.2 l59.3) (IntKind.wrap .i64 (n55 + 1)) w58 ∧
 I53 (Sl.mk l59.1 l59.2 l59.3) (IntKind.wrap .i64 (n55 + 1)) w58 < I53 l54 n55 w56))))) ∧
 (decide (n55 < IntKind.wrap .i64 (n44 + IntKind.wrap .i64 n50)) = false →
 (I28 (Sl.mk l54.1 l54.2 l54.3) w56 ∧
 I29 (Sl.mk l54.1 l54.2 l54.3) w56 < I29 l30 w31))))))))))))))))))))))) ∧
 (decide ((↑l30.2 : Int) < IntKind.wrap .i64 (IntKind.wrap .i64 (IntKind.wrap .i64 (IntKind.wrap .u32 (↑(BitVec.toNat (BitVec.ofInt 32 n4 &&& BitVec.ofInt 32 31)) : Int)) + 257) + IntKind.wrap .i64 (IntKind.wrap .i64 (IntKind.wrap .u32 (↑(BitVec.toNat (BitVec.ofInt 32 (Int.fdiv n4 (2 ^ min (Int.toNat 5) 32)) &&& BitVec.ofInt 32 31)) : Int)) + 1))) = false →
 ((0 ≤ IntKind.wrap .i64 (IntKind.wrap .i64 (IntKind.wrap .u32 (↑(BitVec.toNat (BitVec.ofInt 32 n4 &&& BitVec.ofInt 32 31)) : Int)) + 257) ∧
 IntKind.wrap .i64 (IntKind.wrap .i64 (IntKind.wrap .u32 (↑(BitVec.toNat (BitVec.ofInt 32 n4 &&& BitVec.ofInt 32 31)) : Int)) + 257) ≤ (↑l30.3 : Int)) ∧
 Calls Tryz.prog (147 : Nat) (Array.mk [Value.slice (subA l30.1 l30.3 0 1) (Int.toNat (IntKind.wrap .i64 (IntKind.wrap .i64 (IntKind.wrap .u32 (↑(BitVec.toNat (BitVec.ofInt 32 n4 &&& BitVec.ofInt 32 31)) : Int)) + 257))) l30.3]) (w31) (fun e60 w61 =>
 ∃ p62 : Option Addr, ∃ n63 : Int, (e60 = Ending.returned (Value.tuple (Array.mk [Value.pointer p62, Value.int .i64 n63])) ∧
 ((0 ≤ IntKind.wrap .i64 (IntKind.wrap .i64 (IntKind.wrap .u32 (↑(BitVec.toNat (BitVec.ofInt 32 n4 &&& BitVec.ofInt 32 31)) : Int)) + 257) ∧
 IntKind.wrap .i64 (IntKind.wrap .i64 (IntKind.wrap .u32 (↑(BitVec.toNat (BitVec.ofInt 32 n4 &&& BitVec.ofInt 32 31)) : Int)) + 257) ≤ (↑l30.2 : Int)) ∧
 Calls Tryz.prog (147 : Nat) (Array.mk [Value.slice (subA l30.1 l30.3 (Int.toNat (IntKind.wrap .i64 (IntKind.wrap .i64 (IntKind.wrap .u32 (↑(BitVec.toNat (BitVec.ofInt 32 n4 &&& BitVec.ofInt 32 31)) : Int)) + 257))) 1) (l30.2 - Int.toNat (IntKind.wrap .i64 (IntKind.wrap .i64 (IntKind.wrap .u32 (↑(BitVec.toNat (BitVec.ofInt 32 n4 &&& BitVec.ofInt 32 31)) : Int)) + 257))) (l30.3 - Int.toNat (IntKind.wrap .i64 (IntKind.wrap .i64 (IntKind.wrap .u32 (↑(BitVec.toNat (BitVec.ofInt 32 n4 &&& BitVec.ofInt 32 31)) : Int)) + 257)))]) (w61) (fun e64 w65 =>
 ∃ p66 : Option Addr, ∃ n67 : Int, (e64 = Ending.returned (Value.tuple (Array.mk [Value.pointer p66, Value.int .i64 n67])) ∧
 (((0 : Int) ≤ (256 : Int) ∧
 256 < (↑l30.2 : Int)) ∧
 ∃ a68 : Addr, (l30.1 = some a68 ∧
 ∃ n69 : Int, (World.cell? w65 (Addr.add a68 (Int.toNat 256 * 1)) = some (Value.int .i64 n69) ∧
 ((((n69 == 0) = true →
 R (Value.tuple (Array.mk [Value.pointer none, Value.pointer none, Value.int .i64 3])) w65)) ∧
 ((n69 == 0) = false →
 ((((n63 != 0) = true →
 R (Value.tuple (Array.mk [Value.pointer none, Value.pointer none, Value.int .i64 3])) w65)) ∧
 ((n63 != 0) = false →
 ((((n67 != 0) = true →
 R (Value.tuple (Array.mk [Value.pointer none, Value.pointer none, Value.int .i64 3])) w65)) ∧
 ((n67 != 0) = false →
 R (Value.tuple (Array.mk [Value.pointer p62, Value.pointer p66, Value.int .i64 0])) w65)))))))))))))))))))))))))))))))))))))))
theorem vc_inflate_state_tables_ok {x0 : Nat} {w : World} {R : Value → World → Prop} {R' : Ending → World → Prop} (h : vc_inflate_state_tables x0 w R) (hR : ∀ v w', R v w' → R' (.returned v) w') :
    Calls Tryz.prog 205 #[.pointer (some ⟨x0, 0, none⟩)] w R' :=
  calls_of_body (vs := [(.pointer (some ⟨x0, 0, none⟩), true)]) (ty := ty) (ann := ⟨[(35, [(19, .int .i64), (20, .int .i64), (21, .int .i64)])], [(9, [(59, .int .i64)]), (20, [(16, .slice)]), (41, [(16, .slice), (151, .int .i64)])], [], []⟩) (c := Tryz.f205.body.getD .skip) (by kernel_rfl) Tryz.func205 (by kernel_rfl) (by kernel_rfl) (Eq.mp (by kernel_rfl) h) hR
def vc_inflate_state_repeat (x0 : Nat) (x1 : Int) (x2 : Nat) (w : World) (R : Value → World → Prop) : Prop :=
 (((decide (x1 > 285) = true →
 R (Value.int .i64 3) w)) ∧
 (decide (x1 > 285) = false →
 Calls Tryz.prog (109 : Nat) (Array.mk [Value.int .i64 (IntKind.wrap .i64 (x1 - 257))]) (w) (fun e1 w2 =>
 ∃ n3 : Int, ∃ n4 : Int, (e1 = Ending.returned (Value.tuple (Array.mk [Value.int .i64 n3, Value.int .i64 n4])) ∧
 ∃ p5 : Option Addr, (World.cell? w2 (Addr.mk x0 0 none) = some (Value.pointer p5) ∧
 Calls Tryz.prog (203 : Nat) (Array.mk [Value.pointer p5, Value.int .i64 n4]) (w2) (fun e6 w7 =>
 ∃ n8 : Int, ∃ b9 : Bool, (e6 = Ending.returned (Value.tuple (Array.mk [Value.int .u32 n8, Value.bool b9])) ∧
 ((((!b9) = true →
 R (Value.int .i64 6) w7)) ∧
 ((!b9) = false →
 ∃ p10 : Option Addr, (World.cell? w7 (Addr.mk x0 0 none) = some (Value.pointer p10) ∧
 Calls Tryz.prog (206 : Nat) (Array.mk [Value.pointer (some (Addr.mk x2 0 none)), Value.pointer p10]) (w7) (fun e11 w12 =>
 ∃ n13 : Int, ∃ n14 : Int, (e11 = Ending.returned (Value.tuple (Array.mk [Value.int .i64 n13, Value.int .i64 n14])) ∧
 ((((n14 != 0) = true →
 R (Value.int .i64 n14) w12)) ∧
 ((n14 != 0) = false →
 (((decide (n13 > 29) = true →
 R (Value.int .i64 3) w12)) ∧
 (decide (n13 > 29) = false →
 Calls Tryz.prog (110 : Nat) (Array.mk [Value.int .i64 n13]) (w12) (fun e15 w16 =>
 ∃ n17 : Int, ∃ n18 : Int, (e15 = Ending.returned (Value.tuple (Array.mk [Value.int .i64 n17, Value.int .i64 n18])) ∧
 ∃ p19 : Option Addr, (World.cell? w16 (Addr.mk x0 0 none) = some (Value.pointer p19) ∧
 Calls Tryz.prog (203 : Nat) (Array.mk [Value.pointer p19, Value.int .i64 n18]) (w16) (fun e20 w21 =>
 ∃ n22 : Int, ∃ b23 : Bool, (e20 = Ending.returned (Value.tuple (Array.mk [Value.int .u32 n22, Value.bool b23])) ∧
 ((((!b23) = true →
 R (Value.int .i64 6) w21)) ∧
 ((!b23) = false →
 ∃ l24 : Sl, (World.cell? w21 (Addr.mk x0 1 none) = some (Value.slice l24.1 l24.2 l24.3) ∧
 (((decide (IntKind.wrap .i64 (n17 + IntKind.wrap .i64 n22) > (↑l24.2 : Int)) = true →
 R (Value.int .i64 3) w21)) ∧
 (decide (IntKind.wrap .i64 (n17 + IntKind.wrap .i64 n22) > (↑l24.2 : Int)) = false →
 ∃ I25 : Int → World → Prop, ∃ I26 : Int → World → Nat, (I25 0 w21 ∧
 ∀ n27 : Int,
 ∀ w28 : World,
 (I25 n27 w28 →
 (((decide (n27 < IntKind.wrap .i64 (n3 + IntKind.wrap .i64 n8)) = true →
 ∀ w29 : World,
 (Drew w28 w29 →
 ∃ l30 : Sl, (World.cell? w29 (Addr.mk x0 1 none) = some (Value.slice l30.1 l30.2 l30.3) ∧
 ∃ l31 : Sl, (World.cell? w29 (Addr.mk x0 1 none) = some (Value.slice l31.1 l31.2 l31.3) ∧
 ((0 ≤ IntKind.wrap .i64 ((↑l31.2 : Int) - IntKind.wrap .i64 (n17 + IntKind.wrap .i64 n22)) ∧
 IntKind.wrap .i64 ((↑l31.2 : Int) - IntKind.wrap .i64 (n17 + IntKind.wrap .i64 n22)) < (↑l30.2 : Int)) ∧
 ∃ a32 : Addr, (l30.1 = some a32 ∧
 ∃ n33 : Int, (World.cell? w29 (Addr.add a32 (Int.toNat (IntKind.wrap .i64 ((↑l31.2 : Int) - IntKind.wrap .i64 (n17 + IntKind.wrap .i64 n22))) * 1)) = some (Value.int .u8 n33) ∧
 Calls Tryz.prog (207 : Nat) (Array.mk [Value.pointer (some (Addr.mk x0 0 none)), Value.int .u8 n33]) (w29) (fun e34 w35 =>
 ∃ n36 : Int, (e34 = Ending.returned (Value.int .i64 n36) ∧
 ((((n36 != 0) = true →
 R (Value.int .i64 n36) w35)) ∧
 ((n36 != 0) = false →
 (I25 (IntKind.wrap .i64 (n27 + 1)) w35 ∧
 I26 (IntKind.wrap .i64 (n27 + 1)) w35 < I26 n27 w28))))))))))))) ∧
 (decide (n27 < IntKind.wrap .i64 (n3 + IntKind.wrap .i64 n8)) = false →
 R (Value.int .i64 0) w28))))))))))))))))))))))))))))))
theorem vc_inflate_state_repeat_ok {x0 : Nat} {x1 : Int} {x2 : Nat} {w : World} {R : Value → World → Prop} {R' : Ending → World → Prop} (h : vc_inflate_state_repeat x0 x1 x2 w R) (hR : ∀ v w', R v w' → R' (.returned v) w') :
    Calls Tryz.prog 208 #[.pointer (some ⟨x0, 0, none⟩), .int .i64 x1, .pointer (some ⟨x2, 0, none⟩)] w R' :=
  calls_of_body (vs := [(.pointer (some ⟨x0, 0, none⟩), true), (.int .i64 x1, false), (.pointer (some ⟨x2, 0, none⟩), true)]) (ty := ty) (ann := ⟨[], [(21, [(80, .int .i64)])], [(22, .tail 14)], []⟩) (c := Tryz.f208.body.getD .skip) (by kernel_rfl) Tryz.func208 (by kernel_rfl) (by kernel_rfl) (Eq.mp (by kernel_rfl) h) hR
def vc_inflate_state_run (x0 : Nat) (w : World) (R : Value → World → Prop) : Prop :=
 ∃ I1 : World → Prop, ∃ I2 : World → Nat, ∃ I3 : Int → World → Prop, ∃ I4 : Int → World → Nat, ∃ I5 : Int → Option Addr → Option Addr → World → Prop, ∃ I6 : Int → Option Addr → Option Addr → World → Nat, ((∃ p7 : Option Addr, (World.cell? w (Addr.mk x0 0 none) = some (Value.pointer p7) ∧
 Calls Tryz.prog (203 : Nat) (Array.mk [Value.pointer p7, Value.int .i64 3]) (w) (fun e8 w9 =>
 ∃ n10 : Int, ∃ b11 : Bool, (e8 = Ending.returned (Value.tuple (Array.mk [Value.int .u32 n10, Value.bool b11])) ∧
 ((((!b11) = true →
 R (Value.int .i64 6) w9)) ∧
 ((!b11) = false →
 ((0 : Int) ≤ (1 : Int) ∧
 ((((Int.fdiv n10 (2 ^ min (Int.toNat 1) 32) == 0) = true →
 Calls Tryz.prog (204 : Nat) (Array.mk [Value.pointer (some (Addr.mk x0 0 none))]) (w9) (fun e12 w13 =>
 ∃ n14 : Int, (e12 = Ending.returned (Value.int .i64 n14) ∧
 ((((n14 != 0) = true →
 R (Value.int .i64 n14) w13)) ∧
 ((n14 != 0) = false →
 I3 n10 w13)))))) ∧
 ((Int.fdiv n10 (2 ^ min (Int.toNat 1) 32) == 0) = false →
 ((((Int.fdiv n10 (2 ^ min (Int.toNat 1) 32) == 1) = true →
 Calls Tryz.prog (104 : Nat) (Array.mk []) (w9) (fun e15 w16 =>
 ∃ p17 : Option Addr, ∃ p18 : Option Addr, (e15 = Ending.returned (Value.tuple (Array.mk [Value.pointer p17, Value.pointer p18])) ∧
 I5 n10 p17 p18 w16)))) ∧
 ((Int.fdiv n10 (2 ^ min (Int.toNat 1) 32) == 1) = false →
 ((((Int.fdiv n10 (2 ^ min (Int.toNat 1) 32) == 2) = true →
 Calls Tryz.prog (205 : Nat) (Array.mk [Value.pointer (some (Addr.mk x0 0 none))]) (w9) (fun e19 w20 =>
 ∃ p21 : Option Addr, ∃ p22 : Option Addr, ∃ n23 : Int, (e19 = Ending.returned (Value.tuple (Array.mk [Value.pointer p21, Value.pointer p22, Value.int .i64 n23])) ∧
 ((((n23 != 0) = true →
 R (Value.int .i64 n23) w20)) ∧
 ((n23 != 0) = false →
 I5 n10 p21 p22 w20)))))) ∧
 ((Int.fdiv n10 (2 ^ min (Int.toNat 1) 32) == 2) = false →
 R (Value.int .i64 3) w9))))))))))))) ∧
 ((∀ w24 : World,
 (I1 w24 →
 ∃ p25 : Option Addr, (World.cell? w24 (Addr.mk x0 0 none) = some (Value.pointer p25) ∧
 Calls Tryz.prog (203 : Nat) (Array.mk [Value.pointer p25, Value.int .i64 3]) (w24) (fun e26 w27 =>
 ∃ n28 : Int, ∃ b29 : Bool, (e26 = Ending.returned (Value.tuple (Array.mk [Value.int .u32 n28, Value.bool b29])) ∧
 ((((!b29) = true →
 R (Value.int .i64 6) w27)) ∧
 ((!b29) = false →
 ((0 : Int) ≤ (1 : Int) ∧
 ((((Int.fdiv n28 (2 ^ min (Int.toNat 1) 32) == 0) = true →
 Calls Tryz.prog (204 : Nat) (Array.mk [Value.pointer (some (Addr.mk x0 0 none))]) (w27) (fun e30 w31 =>
 ∃ n32 : Int, (e30 = Ending.returned (Value.int .i64 n32) ∧
 ((((n32 != 0) = true →
 R (Value.int .i64 n32) w31)) ∧
 ((n32 != 0) = false →
 (I3 n28 w31 ∧
 I4 n28 w31 < I2 w24))))))) ∧
 ((Int.fdiv n28 (2 ^ min (Int.toNat 1) 32) == 0) = false →
 ((((Int.fdiv n28 (2 ^ min (Int.toNat 1) 32) == 1) = true →
 Calls Tryz.prog (104 : Nat) (Array.mk []) (w27) (fun e33 w34 =>
 ∃ p35 : Option Addr, ∃ p36 : Option Addr, (e33 = Ending.returned (Value.tuple (Array.mk [Value.pointer p35, Value.pointer p36])) ∧
 (I5 n28 p35 p36 w34 ∧
 I6 n28 p35 p36 w34 < I2 w24))))) ∧
 ((Int.fdiv n28 (2 ^ min (Int.toNat 1) 32) == 1) = false →
 ((((Int.fdiv n28 (2 ^ min (Int.toNat 1) 32) == 2) = true →
 Calls Tryz.prog (205 : Nat) (Array.mk [Value.pointer (some (Addr.mk x0 0 none))]) (w27) (fun e37 w38 =>
 ∃ p39 : Option Addr, ∃ p40 : Option Addr, ∃ n41 : Int, (e37 = Ending.returned (Value.tuple (Array.mk [Value.pointer p39, Value.pointer p40, Value.int .i64 n41])) ∧
 ((((n41 != 0) = true →
 R (Value.int .i64 n41) w38)) ∧
 ((n41 != 0) = false →
 (I5 n28 p39 p40 w38 ∧
 I6 n28 p39 p40 w38 < I2 w24))))))) ∧
 ((Int.fdiv n28 (2 ^ min (Int.toNat 1) 32) == 2) = false →
 R (Value.int .i64 3) w27)))))))))))))) ∧
 ((∀ n42 : Int,
 ∀ w43 : World,
 (I3 n42 w43 →
 ((((IntKind.wrap .u32 (↑(BitVec.toNat (BitVec.ofInt 32 n42 &&& BitVec.ofInt 32 1)) : Int) == 0) = true →
 (I1 w43 ∧
 I2 w43 < I4 n42 w43))) ∧
 ((IntKind.wrap .u32 (↑(BitVec.toNat (BitVec.ofInt 32 n42 &&& BitVec.ofInt 32 1)) : Int) == 0) = false →
 R (Value.int .i64 0) w43)))) ∧
 ((∀ n44 : Int,
 ∀ p45 : Option Addr,
 ∀ p46 : Option Addr,
 ∀ w47 : World,
 (I5 n44 p45 p46 w47 →
 ∃ p48 : Option Addr, (World.cell? w47 (Addr.mk x0 0 none) = some (Value.pointer p48) ∧
 Calls Tryz.prog (206 : Nat) (Array.mk [Value.pointer p45, Value.pointer p48]) (w47) (fun e49 w50 =>
 ∃ n51 : Int, ∃ n52 : Int, (e49 = Ending.returned (Value.tuple (Array.mk [Value.int .i64 n51, Value.int .i64 n52])) ∧
 ((((n52 != 0) = true →
 R (Value.int .i64 n52) w50)) ∧
 ((n52 != 0) = false →
 ((((n51 == 256) = true →
 (I3 n44 w50 ∧
 I4 n44 w50 < I6 n44 p45 p46 w47))) ∧
 ((n51 == 256) = false →
 (((decide (n51 < 256) = true →
 Calls Tryz.prog (207 : Nat) (Array.mk [Value.pointer (some (Addr.mk x0 0 none)), Value.int .u8 (IntKind.wrap .u8 n51)]) (w50) (fun e53 w54 =>
 ∃ n55 : Int, (e53 = Ending.returned (Value.int .i64 n55) ∧
 ((((n55 == 0) = true →
 (I5 n44 p45 p46 w54 ∧
 I6 n44 p45 p46 w54 < I6 n44 p45 p46 w47))) ∧
 ((n55 == 0) = false →
 R (Value.int .i64 n55) w54)))))) ∧
 (decide (n51 < 256) = false →
 Calls Tryz.prog (208 : Nat) (Array.mk [Value.pointer (some (Addr.mk x0 0 none)), Value.int .i64 n51, Value.pointer p46]) (w50) (fun e56 w57 =>
 ∃ n58 : Int, (e56 = Ending.returned (Value.int .i64 n58) ∧
 ((((n58 == 0) = true →
 (I5 n44 p45 p46 w57 ∧
 I6 n44 p45 p46 w57 < I6 n44 p45 p46 w47))) ∧
 ((n58 == 0) = false →
 R (Value.int .i64 n58) w57))))))))))))))) ∧
 True))))
theorem vc_inflate_state_run_ok {x0 : Nat} {w : World} {R : Value → World → Prop} {R' : Ending → World → Prop} (h : vc_inflate_state_run x0 w R) (hR : ∀ v w', R v w' → R' (.returned v) w') :
    Calls Tryz.prog 196 #[.pointer (some ⟨x0, 0, none⟩)] w R' :=
  calls_of_body (vs := [(.pointer (some ⟨x0, 0, none⟩), true)]) (ty := ty) (ann := ⟨[], [], [], [(0, []), (1, [(3, .int .u32)]), (2, [(3, .int .u32), (7, .ptr), (8, .ptr)])]⟩) (c := Tryz.f196.body.getD .skip) (by kernel_rfl) Tryz.func196 (by kernel_rfl) (by kernel_rfl) (Eq.mp (by kernel_rfl) h) hR
def vc_inflate_Inflate (x0 : ByteArray) (x1 : Int) (x2 : Int) (w : World) (R : Value → World → Prop) : Prop :=
 (((decide (x1 < 0) = true →
 R (Value.tuple (Array.mk [Value.string (ByteArray.mk (Array.mk [])), Value.int .i64 0, Value.int .i64 1])) w)) ∧
 (decide (x1 < 0) = false →
 (((decide (x1 > (↑(ByteArray.size x0) : Int)) = true →
 R (Value.tuple (Array.mk [Value.string (ByteArray.mk (Array.mk [])), Value.int .i64 0, Value.int .i64 1])) w)) ∧
 (decide (x1 > (↑(ByteArray.size x0) : Int)) = false →
 (((decide (x2 < 0) = true →
 R (Value.tuple (Array.mk [Value.string (ByteArray.mk (Array.mk [])), Value.int .i64 0, Value.int .i64 1])) w)) ∧
 (decide (x2 < 0) = false →
 (((decide (x2 > 65536) = true →
 R (Value.tuple (Array.mk [Value.string (ByteArray.mk (Array.mk [])), Value.int .i64 0, Value.int .i64 1])) w)) ∧
 (decide (x2 > 65536) = false →
 Calls Tryz.prog (195 : Nat) (Array.mk [Value.string x0, Value.int .i64 x1]) (w) (fun e1 w2 =>
 ∃ p3 : Option Addr, (e1 = Ending.returned (Value.pointer p3) ∧
 ∀ w4 : World,
 (w4 = World.alloc w2 (Obj.cells (Array.mk [Value.pointer p3, Value.slice none 0 0, Value.int .i64 x2]) 270) →
 Calls Tryz.prog (196 : Nat) (Array.mk [Value.pointer (some (Addr.mk (Array.size (World.heap w2)) 0 none))]) (w4) (fun e5 w6 =>
 ∃ n7 : Int, (e5 = Ending.returned (Value.int .i64 n7) ∧
 ((((n7 != 0) = true →
 R (Value.tuple (Array.mk [Value.string (ByteArray.mk (Array.mk [])), Value.int .i64 0, Value.int .i64 n7])) w6)) ∧
 ((n7 != 0) = false →
 ∀ w8 : World,
 (Drew w6 w8 →
 ∃ I9 : World → Prop, (I9 w8 ∧
 ∃ l10 : Sl, ((∀ w11 : World,
 (I9 w11 →
 World.cell? w11 (Addr.mk (Array.size (World.heap w2)) 1 none) = some (Value.slice l10.1 l10.2 l10.3))) ∧
 ∃ p12 : Option Addr, ((∀ w13 : World,
 (I9 w13 →
 World.cell? w13 (Addr.mk (Array.size (World.heap w2)) 0 none) = some (Value.pointer p12))) ∧
 ∃ s14 : ByteArray, ((∀ w15 : World,
 (I9 w15 →
 Sem.run Tryz.prog (convert 108 9 (Value.slice l10.1 l10.2 l10.3)) w15 = Result.ok (Value.string s14) w15)) ∧
 Calls Tryz.prog (197 : Nat) (Array.mk [Value.pointer p12]) (w8) (fun e16 w17 =>
 ∃ n18 : Int, (e16 = Ending.returned (Value.int .i64 n18) ∧
 (I9 w17 ∧
 R (Value.tuple (Array.mk [Value.string s14, Value.int .i64 n18, Value.int .i64 0])) w17)))))))))))))))))))))))
theorem vc_inflate_Inflate_ok {x0 : ByteArray} {x1 : Int} {x2 : Int} {w : World} {R : Value → World → Prop} {R' : Ending → World → Prop} (h : vc_inflate_Inflate x0 x1 x2 w R) (hR : ∀ v w', R v w' → R' (.returned v) w') :
    Calls Tryz.prog 179 #[.string x0, .int .i64 x1, .int .i64 x2] w R' :=
  calls_of_body (vs := [(.string x0, false), (.int .i64 x1, false), (.int .i64 x2, false)]) (ty := ty) (ann := ⟨[], [], [(7, .held [(0, true), (1, true), (2, true), (3, true), (5, true), (6, true), (7, true), (8, true), (4, true), (9, false), (10, true), (11, true), (12, true)])], []⟩) (c := Tryz.f179.body.getD .skip) (by kernel_rfl) Tryz.func179 (by kernel_rfl) (by kernel_rfl) (Eq.mp (by kernel_rfl) h) hR
end Go.Proofs.YtllegkmadljmaaaGreatDoor
