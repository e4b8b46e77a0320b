/- packidx.Build walked. Conditions: the names are no longer than memory. -/
import Derived.Test.YtoagdpjickippaaPkB
set_option linter.unusedVariables false
namespace Go.Proofs.Ytoagdpjickippaa
open Go Vc HexM SumM ShaM Go.Proofs

/-- What Build hands back. -/
def BuildR (rs : List PRow) (sum : ByteArray) (far : Int) (w : World) (v : Value) (w' : World) : Prop := Fr (fun _ => False) w w' ∧
  ((v = .tuple #[.string ⟨#[]⟩, .int .i64 2] ∧ 1000 < rs.length) ∨
   (rs.length ≤ 1000 ∧ ((v = .tuple #[.string ⟨#[]⟩, .int .i64 4] ∧ ¬ (CheckP rs ∧ isId sum.data.toList = true)) ∨
     (v = .tuple #[.string ⟨(PkM.textT sha1D far ((sortP rs).map rawOf) (rawB sum)).toArray⟩, .int .i64 0] ∧ CheckP rs ∧ isId sum.data.toList = true))))
theorem cnt_new {w w1 : World} {cs : Array Value} (h : w1 = w.alloc (.cells cs T_256_int)) (hc : cs.toList = List.replicate 256 (.int .i64 0)) : CntAt w1 w.heap.size (fun _ => 0) := by
  refine ⟨cs, by rw [h]; exact alloc_new _ _, by rw [← Array.length_toList, hc, List.length_replicate], fun c hc' => ?_⟩
  rw [← Array.getElem?_toList, hc, List.getElem?_replicate, if_pos hc']; rfl
theorem cat_size (A B : List UInt8) (h : A.length + B.length ≤ 1000000000) : (⟨A.toArray⟩ : ByteArray).size + (⟨B.toArray⟩ : ByteArray).size ≤ 9223372036854775807 := by rw [bs_mksize, bs_mksize]; omega
set_option maxHeartbeats 1000000 in
theorem build_spec {w : World} {a : Option Addr} {n c : Nat} {rs : List PRow} (hr : ReadsK encP 3 w a rs) (hn : rs.length = n) (hz : ∀ r ∈ rs, r.1.size ≤ 140737488355328) (hfit : ∀ r ∈ rs, Fits r) (sum : ByteArray) (hsz : sum.size ≤ 140737488355328) (far : Int) :
    Calls Try.prog F_packidx_Build #[.slice a n c, .string sum, .int .i64 far] w fun e w' => ∃ v, e = .returned v ∧ BuildR rs sum far w v w' := by
  refine vc_packidx_Build_ok (R := BuildR rs sum far w) ?_ (fun v w' h => ⟨v, rfl, h⟩)
  refine ⟨fun h => ⟨.refl _ _, .inl ⟨rfl, by have := of_decide_eq_true h; omega⟩⟩, fun h => ?_⟩
  have hl : n ≤ 1000 := by have := of_decide_eq_false h; omega
  refine (cloneP_spec hr hn (by omega)).mono ?_
  rintro e w2 ⟨l, rfl, ho2, hf2⟩
  refine ⟨l, rfl, (sortP_spec ho2 (by omega)).mono ?_⟩
  rintro e w5 ⟨rfl, ys, hp, hnear, ho5, hf5⟩
  have hF5 : Fr (fun _ => False) w w5 := hf2.trans hf5 fun q hq ⟨y, hy, e⟩ => by have := (ho2.blk hy).1; omega
  have hyl : ys.length = n := by rw [hp.length_eq, hn]
  have hll : l.len = ys.length := ho5.len
  have hr5 := ho5.reads fun _ => rfl
  have hyz : ∀ r ∈ ys, r.1.size ≤ 140737488355328 := fun r hrm => hz r (hp.subset hrm)
  have hyf : ∀ r ∈ ys, Fits r := fun r hrm => hfit r (hp.subset hrm)
  have bad : ∀ {w' : World}, Fr (fun _ => False) w5 w' → ¬ (CheckP ys ∧ isId sum.data.toList = true) → BuildR rs sum far w (.tuple #[.string ⟨#[]⟩, .int .i64 4]) w' := fun hf hno =>
    ⟨hF5.trans' hf, .inr ⟨by omega, .inl ⟨rfl, fun hh => hno ⟨checkP_perm hp.symm hh.1, hh.2⟩⟩⟩⟩
  refine ⟨rfl, fun i w' => ∃ k : Nat, i = k ∧ k ≤ n ∧ (∀ j x, j < k → ys[j]? = some x → okRow x) ∧ (∀ j x y, j + 1 < k → ys[j]? = some x → ys[j + 1]? = some y → x.1 ≠ y.1) ∧ Fr (fun _ => False) w5 w', fun i _ => n - i.toNat,
    ⟨0, rfl, Nat.zero_le _, fun j x h => by omega, fun j x y h => by omega, .refl _ _⟩, ?_⟩
  rintro i w9 ⟨k, rfl, hk, hok, hadj, hf9⟩
  refine ⟨fun hlt => ?_, fun hge => ?_⟩
  · have hlt := of_decide_eq_true hlt
    have hkl : k < ys.length := by omega
    have hx : ys[k]? = some ys[k] := List.getElem?_eq_getElem hkl
    have hxm : ys[k] ∈ ys := List.getElem_mem hkl
    generalize ys[k] = x at hx hxm
    have e1 : IntKind.i64.wrap ((k : Int) + 1) = ((k + 1 : Nat) : Int) := by rw [wrap_i64 (by omega) (by omega)]; omega
    have e2 : 0 < k → IntKind.i64.wrap ((k : Int) - 1) = ((k - 1 : Nat) : Int) := fun h0 => by rw [wrap_i64 (by omega) (by omega)]; omega
    rw [e1]
    obtain ⟨ad, had, hload⟩ := (hr5.keep hf9 (by simp)).load elP hx
    refine ⟨⟨by omega, by omega⟩, ad, had, x.1, x.2.1, x.2.2, by rw [Int.toNat_natCast]; exact hload, fun w14 h14 => ?_⟩
    subst h14
    have hfa : Fr (fun _ => False) w9 (w9.alloc (.cells (encP x).toArray T_packidx_Row)) := .alloc _ _ _
    have hbx0 := boxP_cell w9 x (.refl (fun _ => False) _) (by simp) (j := 0) rfl
    have hbx1 := boxP_cell w9 x (.refl (fun _ => False) _) (by simp) (j := 1) rfl
    refine ⟨_, boxP_run w9 x, fun w16 d16 => ?_⟩
    generalize w9.alloc (.cells (encP x).toArray T_packidx_Row) = w15 at hfa hbx0 hbx1 d16
    have hf16 := hf9.trans' hfa
    refine ⟨fun w' => Fr (fun _ => False) w15 w', .drew _ d16, x.1, fun w19 h19 => h19.cell hbx0 (by simp), (id_spec x.1 (hyz x hxm) w16).mono ?_⟩
    rintro e w21 ⟨rfl, hf21⟩
    have hfS : Fr (fun _ => False) w15 w21 := (Fr.drew _ d16).trans' hf21
    have hF21 := hf16.trans' hfS
    have nochk : ¬ okRow x → ¬ (CheckP ys ∧ isId sum.data.toList = true) := fun h hh => h (hh.1.1 x hxm)
    refine ⟨_, rfl, hfS, fun hid => bad hF21 (nochk fun h => by rw [h.1] at hid; cases hid), fun hid => ?_⟩
    have hid : isId x.1.data.toList = true := by simpa using hid
    have rest : (∀ y, 0 < k → ys[k - 1]? = some y → y.1 ≠ x.1) → ∃ n28 : Int, ((∀ w29, Fr (fun _ => False) w15 w29 → w29.cell? ⟨w9.heap.size, 1, none⟩ = some (.int .i64 n28)) ∧
        ((decide (n28 < 0) = true → BuildR rs sum far w (.tuple #[.string ⟨#[]⟩, .int .i64 4]) w21) ∧
         (decide (n28 < 0) = false → ∃ n30 : Int, ((∀ w31, Fr (fun _ => False) w15 w31 → w31.cell? ⟨w9.heap.size, 1, none⟩ = some (.int .i64 n30)) ∧
          ((decide (n30 > 1099511627776) = true → BuildR rs sum far w (.tuple #[.string ⟨#[]⟩, .int .i64 4]) w21) ∧
           (decide (n30 > 1099511627776) = false → (∃ k' : Nat, ((k + 1 : Nat) : Int) = k' ∧ k' ≤ n ∧ (∀ j x, j < k' → ys[j]? = some x → okRow x) ∧ (∀ j x y, j + 1 < k' → ys[j]? = some x → ys[j + 1]? = some y → x.1 ≠ y.1) ∧ Fr (fun _ => False) w5 w21) ∧ n - ((k + 1 : Nat) : Int).toNat < n - ((k : Nat) : Int).toNat)))))) := fun hne => by
      refine ⟨x.2.1, fun w29 h29 => h29.cell hbx1 (by simp), fun h => bad hF21 (nochk fun hh => by have := of_decide_eq_true h; have := hh.2.1; omega), fun h => ⟨x.2.1, fun w31 h31 => h31.cell hbx1 (by simp), fun h2 => bad hF21 (nochk fun hh => by have := of_decide_eq_true h2; have := hh.2.2; omega), fun h2 => ⟨⟨k + 1, rfl, by omega, fun j y hj hy => ?_, fun j y z hj hy hz => ?_, hF21⟩, by omega⟩⟩⟩
      · by_cases hjk : j < k
        · exact hok j y hjk hy
        · rw [show j = k by omega, hx] at hy
          cases hy
          exact ⟨hid, by have := of_decide_eq_false h; omega, by have := of_decide_eq_false h2; omega⟩
      · by_cases hjk : j + 1 < k
        · exact hadj j y z hjk hy hz
        · have hj' : j + 1 = k := by omega
          rw [hj', hx] at hz
          cases hz
          exact hne y (by omega) (by rw [show k - 1 = j by omega]; exact hy)
    refine ⟨fun h0 => ?_, fun h0 => rest fun y h => by have := of_decide_eq_false h0; omega⟩
    have h0 : 0 < k := by have := of_decide_eq_true h0; omega
    rw [e2 h0]
    have hy : ys[k - 1]? = some ys[k - 1] := List.getElem?_eq_getElem (by omega)
    generalize ys[k - 1] = y at hy
    obtain ⟨ad', had', hcy⟩ := hr5 (k - 1) y hy
    have hcy0 := hcy 0 (.string y.1) rfl
    rw [show (ad'.add ((k - 1) * 3)).add 0 = ad'.add ((k - 1) * 3) by rw [add_add]; rfl] at hcy0
    refine ⟨⟨by omega, by omega⟩, ad', had', y.1, fun w25 h25 => by rw [Int.toNat_natCast]; exact (hf16.trans' h25).cell hcy0 (by simp), x.1, fun w27 h27 => h27.cell hbx0 (by simp), ?_⟩
    rw [bs_eq]
    refine ⟨fun he => bad hF21 fun hh => ?_, fun hne => rest fun z _ hz => ?_⟩
    · have he : y.1 = x.1 := of_decide_eq_true he
      have := (List.pairwise_iff_getElem.1 hh.1.2) (k - 1) k (by omega) hkl (by omega)
      rw [(List.getElem?_eq_some_iff.1 hx).2, (List.getElem?_eq_some_iff.1 hy).2] at this
      exact this he
    · rw [hy] at hz
      cases hz
      exact of_decide_eq_false hne
  · have hge := of_decide_eq_false hge
    have hk' : k = n := by omega
    subst hk'
    have hrise : RiseP ys := adj_rise hnear fun j x y hx hy => hadj j x y (by have := (List.getElem?_eq_some_iff.1 hy).1; omega) hx hy
    have hchk : CheckP ys := ⟨fun r hrm => by
      obtain ⟨j, hj⟩ := List.mem_iff_getElem?.1 hrm
      exact hok j r (by have := (List.getElem?_eq_some_iff.1 hj).1; omega) hj, rise_dist hrise⟩
    have hchkr := checkP_perm hp hchk
    have hsort : sortP rs = ys := riseP_eq (near_rise (sortP_near rs) (checkP_perm (sortP_perm rs).symm hchkr).2) hrise ((sortP_perm rs).trans hp.symm)
    clear hok hadj hge
    refine (unhex_spec sum hsz w9).mono ?_
    rintro e w37 ⟨rfl, hf37⟩
    have hf37' := hf9.trans' hf37
    have hidu := id_unhex sum
    refine ⟨_, _, rfl, fun hb => bad hf37' fun hh => ?_, fun hb => ⟨fun hs => bad hf37' fun hh => ?_, fun hs w40 h40 => ?_⟩⟩
    · rw [hh.2] at hidu
      have := (Bool.and_eq_true_iff.1 hidu.symm).1
      rw [this] at hb; cases hb
    · rw [hh.2] at hidu
      have := of_decide_eq_true (Bool.and_eq_true_iff.1 hidu.symm).2
      rw [this] at hs; simp at hs
    have hid : isId sum.data.toList = true := by
      rw [hidu]
      have h1 : (unhexL sum.data.toList).isSome = true := by simpa using hb
      have h2 : (unhexS sum).size = 20 := by
        have : ((unhexS sum).size : Int) = 20 := by simpa using hs
        omega
      rw [h1, h2]; rfl
    obtain ⟨hu1, hu2, _⟩ := unhexS_raw hid
    rw [hu1]
    have hraw20 : (rawB sum).length = 20 := (rawB_id hid).2.1
    have hgood := raw_good hchk hrise hyf (by omega)
    have htext : PkM.textT sha1D far ((sortP rs).map rawOf) (rawB sum) = PkM.textT sha1D far (ys.map rawOf) (rawB sum) := by rw [hsort]
    obtain ⟨q1, q2, q3, q4, q5, q6⟩ := PkM.body_parts (far := far) hgood hraw20
    obtain ⟨b, hb⟩ : ∃ b, w37.heap.size = b := ⟨_, rfl⟩
    have hf40 : Fr (fun _ => False) w37 w40 := by rw [h40]; exact .alloc _ _ _
    have hc40 : CntAt w40 b (fun _ => 0) := by rw [← hb]; exact cnt_new h40 (by kernel_rfl)
    clear h40
    rw [hb]
    have hsB : ∀ {w' w2 : World}, Fr (fun _ => False) w37 w' → Fr (· = b) w' w2 → Fr (fun _ => False) w37 w2 := fun h h' => h.trans h' fun q hq e => by omega
    have hrawm : ys.map rawOf = ys.map rawOf := rfl
    obtain ⟨l0, hl0⟩ : ∃ l0, ys.map rawOf = l0 := ⟨_, rfl⟩
    rw [hl0] at htext hgood q1 q2 q3 q4 q5 q6
    clear hrawm
    have hl0l : l0.length = ys.length := by rw [← hl0, List.length_map]
    refine ⟨fun s43 s44 s45 s46 i w' => ∃ k : Nat, i = (k : Int) ∧ k ≤ ys.length ∧ s43 = ⟨((l0.take k).flatMap (·.1)).toArray⟩ ∧ s44 = ⟨((l0.take k).flatMap (fun r => bigB 4 r.2.2)).toArray⟩ ∧ s45 = ⟨((PkM.nearV far 0 (l0.take k)).flatMap (bigB 4)).toArray⟩ ∧
        s46 = ⟨(((l0.take k).filter (PkM.isFar far)).flatMap (fun r => bigB 8 r.2.1)).toArray⟩ ∧ CntAt w' b (PkM.cnt (l0.take k)) ∧ Fr (fun _ => False) w37 w', fun _ _ _ _ i _ => ys.length - i.toNat,
      ⟨0, rfl, Nat.zero_le _, rfl, rfl, rfl, rfl, hc40, hf40⟩, ?_⟩
    clear hc40 hf40
    rintro s43 s44 s45 s46 i w48 ⟨m, rfl, hm, rfl, rfl, rfl, rfl, hc48, hf48⟩
    have hpart : ∀ (l : List PkM.Rw), (∀ r ∈ l, r.1.length = 20) → l.length ≤ 1000 → (l.flatMap (·.1)).length ≤ 20000 ∧ (l.flatMap (fun r => bigB 4 r.2.2)).length ≤ 4000 ∧ ((PkM.nearV far 0 l).flatMap (bigB 4)).length ≤ 4000 ∧ ((l.filter (PkM.isFar far)).flatMap (fun r => bigB 8 r.2.1)).length = 8 * (l.filter (PkM.isFar far)).length ∧ (l.filter (PkM.isFar far)).length ≤ 1000 := fun l h1 h2 => by
      have g1 := PkM.flat_size (f := fun r : PkM.Rw => r.1) (k := 20) l h1
      have g2 := PkM.flat_size (f := fun r : PkM.Rw => bigB 4 r.2.2) (k := 4) l fun r _ => bigB_length _ _
      have g3 := PkM.flat_size (f := bigB 4) (k := 4) (PkM.nearV far 0 l) fun r _ => bigB_length _ _
      have g4 := PkM.flat_size (f := fun r : PkM.Rw => bigB 8 r.2.1) (k := 8) (l.filter (PkM.isFar far)) fun r _ => bigB_length _ _
      have g5 := List.length_filter_le (PkM.isFar far) l
      rw [PkM.nearV_len] at g3
      exact ⟨by omega, by omega, by omega, g4, by omega⟩
    obtain ⟨z1, z2, z3, z4, z5⟩ := hpart (l0.take m) (fun r h => hgood.raw r (List.mem_of_mem_take h)) (by rw [List.length_take]; have := hgood.few; omega)
    refine ⟨fun hlt => ?_, fun hge => ?_⟩
    · have hlt := of_decide_eq_true hlt
      have hkl : m < ys.length := by omega
      have hx : ys[m]? = some ys[m] := List.getElem?_eq_getElem hkl
      have hxm : ys[m] ∈ ys := List.getElem_mem hkl
      generalize ys[m] = x at hx hxm
      have hrx : l0[m]? = some (rawOf x) := by rw [← hl0, List.getElem?_map, hx]; rfl
      have htk : l0.take (m + 1) = l0.take m ++ [rawOf x] := by rw [List.take_add_one, hrx]; rfl
      have e1 : IntKind.i64.wrap ((m : Int) + 1) = ((m + 1 : Nat) : Int) := by rw [wrap_i64 (by omega) (by omega)]; omega
      rw [e1]
      have hf548 : Fr (fun _ => False) w5 w48 := hf37'.trans' hf48
      obtain ⟨ad, had, hload⟩ := (hr5.keep hf548 (by simp)).load elP hx
      obtain ⟨ox1, ox2, ox3⟩ := hchk.1 x hxm
      have fx := hyf x hxm
      obtain ⟨xu1, xu2, _⟩ := unhexS_raw ox1
      have xr20 := (rawB_id ox1).2.1
      refine ⟨⟨by omega, by omega⟩, ad, had, x.1, x.2.1, x.2.2, by rw [Int.toNat_natCast]; exact hload, fun w53 h53 => ?_⟩
      subst h53
      have hfa : Fr (fun _ => False) w48 (w48.alloc (.cells (encP x).toArray T_packidx_Row)) := .alloc _ _ _
      have hbx0 := boxP_cell w48 x (.refl (fun _ => False) _) (by simp) (j := 0) rfl
      have hbx1 := boxP_cell w48 x (.refl (fun _ => False) _) (by simp) (j := 1) rfl
      have hbx2 := boxP_cell w48 x (.refl (fun _ => False) _) (by simp) (j := 2) rfl
      refine ⟨_, boxP_run w48 x, x.1, hbx0, ?_⟩
      have hc54 := hc48.keep hfa (by simp)
      have hgb : w48.heap.size ≠ b := by
        obtain ⟨cs, k1, _⟩ := hc48
        have := lt_blk k1; omega
      generalize w48.alloc (.cells (encP x).toArray T_packidx_Row) = w54 at hfa hbx0 hbx1 hbx2 hc54
      generalize w48.heap.size = g at hbx0 hbx1 hbx2 hgb
      have hf54 := hf48.trans' hfa
      refine (unhex_spec x.1 (hyz x hxm) w54).mono ?_
      rintro e w57 ⟨rfl, hf57⟩
      rw [xu1]
      have hf57' := hf54.trans' hf57
      have hc57 := hc54.keep hf57 (by simp)
      have hbt : IntKind.i64.wrap (byteAt ⟨(rawB x.1).toArray⟩ 0) = ((PkM.hd0 (rawB x.1) : Nat) : Int) := by
        rw [show (0 : Int) = ((0 : Nat) : Int) from rfl, byteAt_nat, hd0_byt, bs_mk]
        have : PkM.hd0 (rawB x.1) < 256 := UInt8.toNat_lt _
        exact wrap_i64 (by omega) (by omega)
      refine ⟨_, _, rfl, ⟨by decide, by rw [bs_mksize, xr20]; decide⟩, ?_⟩
      rw [hbt]
      have hh : PkM.hd0 (rawB x.1) < 256 := UInt8.toNat_lt _
      obtain ⟨h0, hh0⟩ : ∃ h0, PkM.hd0 (rawB x.1) = h0 := ⟨_, rfl⟩
      rw [hh0] at hh ⊢
      have hcs : ∀ c, PkM.cnt (l0.take (m + 1)) c = if h0 ≤ c then PkM.cnt (l0.take m) c + 1 else PkM.cnt (l0.take m) c := fun c => by
        rw [htk, PkM.cnt_snoc, show PkM.hd0 (rawOf x).1 = h0 from hh0]
      refine ⟨fun q w' => ∃ p : Nat, q = p ∧ h0 ≤ p ∧ p ≤ 256 ∧ CntAt w' b (fun c => if h0 ≤ c ∧ c < p then PkM.cnt (l0.take m) c + 1 else PkM.cnt (l0.take m) c) ∧ Fr (· = b) w57 w', fun q _ => 256 - q.toNat,
        ⟨h0, rfl, Nat.le_refl _, by omega, ?_, .refl _ _⟩, ?_⟩
      · obtain ⟨cs, k1, k2, k3⟩ := hc57
        refine ⟨cs, k1, k2, fun c hc => ?_⟩
        have e : (if h0 ≤ c ∧ c < h0 then PkM.cnt (l0.take m) c + 1 else PkM.cnt (l0.take m) c) = PkM.cnt (l0.take m) c := if_neg fun hh => by omega
        show cs[c]? = some (.int .i64 ((if h0 ≤ c ∧ c < h0 then PkM.cnt (l0.take m) c + 1 else PkM.cnt (l0.take m) c : Nat) : Int))
        rw [e]
        exact k3 c hc
      rintro q w63 ⟨p, rfl, hp1, hp2, hc63, hf63⟩
      refine ⟨fun hlt => ?_, fun hge => ?_⟩
      · have hlt := of_decide_eq_true hlt
        obtain ⟨k1, k2⟩ := hc63.at (c := p) (by omega)
        rw [if_neg (fun hh => by omega)] at k1
        rw [Int.toNat_natCast, add_lit, Nat.zero_add, Nat.mul_one]
        have hcl := PkM.cnt_le (l0.take m) p
        rw [List.length_take] at hcl
        have e3 : IntKind.i64.wrap (((PkM.cnt (l0.take m) p : Nat) : Int) + 1) = ((PkM.cnt (l0.take m) p + 1 : Nat) : Int) := by rw [wrap_i64 (by omega) (by omega)]; omega
        have e4 : IntKind.i64.wrap ((p : Int) + 1) = ((p + 1 : Nat) : Int) := by rw [wrap_i64 (by omega) (by omega)]; omega
        refine ⟨⟨by omega, by omega⟩, _, k1, ⟨by omega, by omega⟩, k2, fun w65 h65 => ?_⟩
        rw [e3] at h65
        rw [e4]
        refine ⟨⟨p + 1, rfl, by omega, by omega, ?_, hf63.trans' (by rw [h65]; exact Fr.set (· = b) _ _ rfl)⟩, by dsimp only; omega⟩
        rw [h65]
        refine hc63.set (c := p) (by omega) fun c hc => ?_
        by_cases hcp : c = p
        · subst hcp
          rw [if_pos rfl, if_pos ⟨by omega, by omega⟩]
        · rw [if_neg hcp]
          by_cases hin : h0 ≤ c ∧ c < p
          · rw [if_pos hin, if_pos ⟨hin.1, by omega⟩]
          · rw [if_neg hin, if_neg (fun hh => hin ⟨hh.1, by omega⟩)]
      · have hge := of_decide_eq_false hge
        have hp' : p = 256 := by omega
        subst hp'
        have hc63' : CntAt w63 b (PkM.cnt (l0.take (m + 1))) := by
          obtain ⟨cs, k1, k2, k3⟩ := hc63
          refine ⟨cs, k1, k2, fun c hc => ?_⟩
          have k4 := k3 c hc
          simp only at k4
          rw [k4, hcs]
          by_cases hin : h0 ≤ c
          · rw [if_pos ⟨hin, hc⟩, if_pos hin]
          · rw [if_neg (fun hh => hin hh.1), if_neg hin]
        clear hc63
        have hb63 : ∀ {j v}, w54.cell? ⟨g, j, none⟩ = some v → w63.cell? ⟨g, j, none⟩ = some v := fun h => hf63.cell (hf57.cell h (by simp)) (fun e => hgb e)
        have hf63' := hsB hf57' hf63
        obtain ⟨cr, hcr⟩ : ∃ cr : Nat, x.2.2 = cr := ⟨x.2.2.toNat, (Int.toNat_of_nonneg fx.1).symm⟩
        obtain ⟨pl, hpl⟩ : ∃ pl : Nat, x.2.1 = pl := ⟨x.2.1.toNat, (Int.toNat_of_nonneg ox2).symm⟩
        have hraw : rawOf x = (rawB x.1, pl, cr) := by unfold rawOf; rw [hcr, hpl, Int.toNat_natCast, Int.toNat_natCast]
        have hcrl : cr < 4294967296 := by have := fx.2; omega
        have hpll : pl ≤ 1099511627776 := by omega
        refine ⟨cat_size _ _ (by omega), _, hb63 hbx2, ?_⟩
        rw [hcr, wrap_u64 (by omega) (by omega)]
        refine (big_spec cr 4 (by omega) (by decide) w63).mono ?_
        rintro e w68 ⟨rfl, hf68⟩
        have hb68 : ∀ {j v}, w54.cell? ⟨g, j, none⟩ = some v → w68.cell? ⟨g, j, none⟩ = some v := fun h => hf68.cell (hb63 h) (by simp)
        have hc68 := hc63'.keep hf68 (by simp)
        have hf68' := hf63'.trans' hf68
        have hb4 : (bigB 4 cr).length = 4 := bigB_length _ _
        have hfr : PkM.isFar far (rawOf x) = (decide (far ≤ (pl : Int)) || decide (2147483648 ≤ pl)) := by rw [hraw]; rfl
        refine ⟨_, rfl, cat_size _ _ (by omega), fun bb w' => bb = PkM.isFar far (rawOf x) ∧ w' = w68, ⟨_, hb68 hbx1, fun h => ⟨?_, rfl⟩, fun h => ⟨_, hb68 hbx1, ?_, rfl⟩⟩, ?_⟩
        · rw [hpl] at h
          rw [hfr, decide_eq_true (show far ≤ (pl : Int) by have := of_decide_eq_true h; omega), Bool.true_or]
        · rw [hpl] at h
          rw [hfr, decide_eq_false (show ¬ far ≤ (pl : Int) by have := of_decide_eq_false h; omega), Bool.false_or, hpl]
          exact decide_eq_decide.2 (by omega)
        rintro bb w74 ⟨rfl, hw⟩
        replace hw := hw.symm
        subst hw
        have fN : ⟨((l0.take m).flatMap (·.1)).toArray⟩ ++ (⟨(rawB x.1).toArray⟩ : ByteArray) = ⟨((l0.take (m + 1)).flatMap (·.1)).toArray⟩ := by rw [bs_cat, htk, List.flatMap_append, hraw]; simp
        have fC : ⟨((l0.take m).flatMap (fun r => bigB 4 r.2.2)).toArray⟩ ++ (⟨(bigB 4 cr).toArray⟩ : ByteArray) = ⟨((l0.take (m + 1)).flatMap (fun r => bigB 4 r.2.2)).toArray⟩ := by rw [bs_cat, htk, List.flatMap_append, hraw]; simp
        have fV : ∀ v, (if PkM.isFar far (rawOf x) = true then 2147483648 + 0 + ((l0.take m).filter (PkM.isFar far)).length else (rawOf x).2.1) = v → ⟨((PkM.nearV far 0 (l0.take m)).flatMap (bigB 4)).toArray⟩ ++ (⟨(bigB 4 v).toArray⟩ : ByteArray) = ⟨((PkM.nearV far 0 (l0.take (m + 1))).flatMap (bigB 4)).toArray⟩ := fun v hv => by
          rw [bs_cat, htk, PkM.nearV_snoc, List.flatMap_append, hv]; simp
        refine ⟨fun hfar => ⟨by decide, ?_⟩, fun hnear => ⟨_, hb68 hbx1, ?_⟩⟩
        · have e5 : IntKind.u64.wrap (IntKind.i64.wrap (2147483648 + IntKind.i64.wrap (Int.tdiv ((ByteArray.size ⟨(((l0.take m).filter (PkM.isFar far)).flatMap (fun r => bigB 8 r.2.1)).toArray⟩ : Nat) : Int) 8))) = ((2147483648 + 0 + ((l0.take m).filter (PkM.isFar far)).length : Nat) : Int) := by
            rw [bs_mksize, z4, Int.tdiv_eq_ediv_of_nonneg (Int.natCast_nonneg _)]
            generalize ((l0.take m).filter (PkM.isFar far)).length = u at z5
            rw [show ((8 * u : Nat) : Int) / 8 = (u : Int) by omega, wrap_i64 (x := (u : Int)) (by omega) (by omega), wrap_i64 (by omega) (by omega), wrap_u64 (by omega) (by omega)]; omega
          rw [e5]
          refine (big_spec _ 4 (by omega) (by decide) w68).mono ?_
          rintro e w76 ⟨rfl, hf76⟩
          have hb8 : ∀ v, (bigB 4 v).length = 4 := fun v => bigB_length _ _
          refine ⟨_, rfl, cat_size _ _ (by rw [hb8]; omega), _, hf76.cell (hb68 hbx1) (by simp), ?_⟩
          rw [hpl, wrap_u64 (by omega) (by omega)]
          refine (big_spec pl 8 (by omega) (by decide) w76).mono ?_
          rintro e w80 ⟨rfl, hf80⟩
          refine ⟨_, rfl, cat_size _ _ (by rw [bigB_length, z4]; omega), ⟨m + 1, rfl, by omega, fN, fC, fV _ (by rw [if_pos hfar]), ?_, (hc68.keep hf76 (by simp)).keep hf80 (by simp), (hf68'.trans' hf76).trans' hf80⟩, by dsimp only; omega⟩
          rw [bs_cat, htk, List.filter_append, List.filter_cons_of_pos hfar, List.filter_nil, List.flatMap_append, hraw]; simp
        · rw [hpl, wrap_u64 (by omega) (by omega)]
          refine (big_spec pl 4 (by omega) (by decide) w68).mono ?_
          rintro e w84 ⟨rfl, hf84⟩
          refine ⟨_, rfl, cat_size _ _ (by rw [bigB_length]; omega), ⟨m + 1, rfl, by omega, fN, fC, fV _ (by rw [if_neg (by rw [hnear]; decide), hraw]), ?_, hc68.keep hf84 (by simp), hf68'.trans' hf84⟩, by dsimp only; omega⟩
          rw [htk, List.filter_append, List.filter_cons_of_neg (by rw [hnear]; decide), List.filter_nil, List.append_nil]
    · have hge := of_decide_eq_false hge
      have hm' : m = l0.length := by omega
      subst hm'
      rw [List.take_length] at hc48 z1 z2 z3 z4 z5 ⊢
      refine ⟨_, hc48.load, fun s i w' => ∃ k : Nat, i = (k : Int) ∧ k ≤ 256 ∧ s = ⟨(PkM.magic ++ (List.range k).flatMap fun c => bigB 4 (PkM.cnt l0 c)).toArray⟩ ∧ Fr (fun _ => False) w37 w', fun _ i _ => 256 - i.toNat, ⟨0, rfl, Nat.zero_le _, rfl, hf48⟩, ?_⟩
      rintro s89 i w91 ⟨k, rfl, hk, rfl, hf91⟩
      have hFl := PkM.flat_size (f := fun c => bigB 4 (PkM.cnt l0 c)) (k := 4) (List.range k) fun c _ => bigB_length _ _
      rw [List.length_range] at hFl
      refine ⟨fun hlt => ?_, fun hge => ?_⟩
      · have hlt := of_decide_eq_true hlt
        have e1 : IntKind.i64.wrap ((k : Int) + 1) = ((k + 1 : Nat) : Int) := by rw [wrap_i64 (by omega) (by omega)]; omega
        rw [e1]
        have hix := index_agg (P := Try.prog) (w := w91) T_256_int T_int 256 ((List.range 256).map fun c => Value.int .i64 (PkM.cnt l0 c : Nat)) .i64 k (by kernel_rfl) (by kernel_rfl) (by rw [List.length_map, List.length_range]) (by omega) (by kernel_rfl)
        have hgd : ((List.range 256).map fun c => Value.int .i64 (PkM.cnt l0 c : Nat)).getD k undef = .int .i64 (PkM.cnt l0 k : Nat) := by
          rw [List.getD_eq_getElem?_getD, List.getElem?_map, List.getElem?_range (by omega)]; rfl
        rw [hgd] at hix
        have hcl := PkM.cnt_le l0 k
        have := hgood.few
        refine ⟨w91, _, hix, ?_⟩
        rw [wrap_u64 (by omega) (by omega)]
        refine (big_spec _ 4 (by omega) (by decide) w91).mono ?_
        rintro e w95 ⟨rfl, hf95⟩
        refine ⟨_, rfl, cat_size _ _ (by rw [bigB_length, List.length_append, hFl]; show 8 + _ + _ ≤ _; omega), ⟨k + 1, rfl, by omega, ?_, hf91.trans' hf95⟩, by dsimp only; omega⟩
        rw [bs_cat, List.range_succ, List.flatMap_append, List.append_assoc]; simp
      · have hge := of_decide_eq_false hge
        have hk' : k = 256 := by omega
        subst hk'
        have hbody : (⟨(PkM.magic ++ (List.range 256).flatMap fun c => bigB 4 (PkM.cnt l0 c)).toArray⟩ : ByteArray) ++ (⟨(l0.flatMap (·.1)).toArray⟩ ++ ⟨(l0.flatMap (fun r => bigB 4 r.2.2)).toArray⟩ ++ ⟨((PkM.nearV far 0 l0).flatMap (bigB 4)).toArray⟩ ++ ⟨((l0.filter (PkM.isFar far)).flatMap (fun r => bigB 8 r.2.1)).toArray⟩ ++ ⟨(rawB sum).toArray⟩) = ⟨(PkM.bodyT far l0 (rawB sum)).toArray⟩ := by
          rw [bs_cat, bs_cat, bs_cat, bs_cat, bs_cat]
          unfold PkM.bodyT
          simp only [List.append_assoc]
        rw [hbody]
        rw [bs_cat, bs_cat, bs_cat]
        have hml : PkM.magic.length = 8 := rfl
        refine ⟨cat_size _ _ (by omega), ?_, ?_, ?_, ?_, ?_⟩
        · exact cat_size _ _ (by rw [List.length_append]; omega)
        · exact cat_size _ _ (by rw [List.length_append, List.length_append]; omega)
        · exact cat_size _ _ (by rw [List.length_append, List.length_append, List.length_append]; omega)
        · rw [bs_cat]
          exact cat_size _ _ (by rw [List.length_append, List.length_append, List.length_append, List.length_append, List.length_append, q1]; omega)
        refine (sum1_spec _ (by rw [bs_mksize, q6]; omega) w91).mono ?_
        rintro e w98 ⟨rfl, hf98⟩
        rw [bs_mk]
        refine ⟨_, rfl, cat_size _ _ (by have := digest_len (PkM.bodyT far l0 (rawB sum)); unfold sha1D at this; rw [this, q6]; omega), (hF5.trans' hf37').trans' (hf91.trans' hf98), .inr ⟨by omega, .inr ⟨?_, hchkr, hid⟩⟩⟩
        rw [bs_cat, htext]
        rfl
end Go.Proofs.Ytoagdpjickippaa
