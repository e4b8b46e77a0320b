/- The three laws on sums walked: they return true and write nothing that was there. Conditions: the lists are as Go's values are. -/
import Derived.Test.YtcboiljbkkleiaaShaS
import Derived.Test.YtcboiljbkkleiaaR3
set_option linter.unusedVariables false
namespace Go.Proofs.Ytcboiljbkkleiaa
open Go Vc BitsM ShaM Go.Proofs

theorem _root_.Vc.Fr.up2 {B : Nat} {W w w1 : World} (h : Fr (fun k => B ≤ k) W w) (h' : Fr (fun _ => False) w w1) : Fr (fun k => B ≤ k) W w1 := h.trans h' (by simp)
theorem few_len (s : ByteArray) (n : Nat) : (if s.size > n then s.extract 0 n else s).size ≤ n := by
  split
  · rw [ByteArray.size_extract]; omega
  · omega
theorem sums_walk (a0 : ByteArray) (W : World) : Calls Try.prog F_cartularylaw02_ShaSums #[.string a0] W fun e w' => e = .returned (.bool true) ∧ RowKit.Below W.heap.size W w' := by
  refine vc_cartularylaw02_ShaSums_ok (R := fun v w' => v = .bool true ∧ Fr (fun k => W.heap.size ≤ k) W w') ?_ (fun v w' h => ⟨by rw [h.1], h.2.below (Nat.le_refl _)⟩)
  refine (few_spec a0 500 W).mono ?_
  rintro e w2 ⟨rfl, rfl⟩
  have hs := few_len a0 500
  generalize (if a0.size > 500 then a0.extract 0 500 else a0) = s at hs
  refine ⟨s, rfl, ?_⟩
  refine (awake2_spec w2).mono ?_
  rintro e w5 ⟨rfl, f5⟩
  refine ⟨true, rfl, fun _ => ?_, fun h => by cases h⟩
  have hd1 := fun w => sum1_spec s (by omega) w
  have hr1 := fun w => rsum1_spec s (by omega) w
  have hd2 := fun w => sum256_spec s (by omega) w
  have hr2 := fun w (a : Option Addr) (c : Nat) => rsum256_spec s (by omega) (a := a) c w
  have hkt := fun w => ktable_spec w
  have hKl := K256_len
  generalize digest block1 start1 s.data.toList = D1 at hd1 hr1
  generalize digest (block2 K256) start2 s.data.toList = D2 at hd2 hr2
  generalize K256 = K at hkt hr2 hKl
  refine (hd1 w5).mono ?_
  rintro e w8 ⟨rfl, f8⟩
  refine ⟨_, rfl, (hr1 w8).mono ?_⟩
  rintro e w11 ⟨rfl, f11⟩
  refine ⟨_, rfl, fun _ => ?_, fun h => by rw [beq_self_eq_true] at h; cases h⟩
  refine (hd2 w11).mono ?_
  rintro e w14 ⟨rfl, f14⟩
  refine ⟨_, rfl, (hkt w14).mono ?_⟩
  rintro e w17 ⟨l18, rfl, o18, f17⟩
  have hl18 : l18.len = 64 := by rw [o18.len, uv_len, hKl]
  refine ⟨l18, rfl, ?_⟩
  rw [hl18]
  refine (hr2 w17 l18.a l18.cap o18.reads).mono ?_
  rintro e w20 ⟨rfl, f20⟩
  refine ⟨_, rfl, by rw [beq_self_eq_true], ?_⟩
  exact (((((f5.trans' f8).trans' f11).trans' f14).trans' f17).trans' f20).mono (by simp)

/-- A sum whose blocks bear its colour. -/
def Obj1 (w : World) (col : Nat → Nat) (i b lo : Nat) (T : TypeId) (f : List ShaM.W → List UInt8 → List ShaM.W) (st : List ShaM.W) (t : List UInt8) : Prop :=
  ∃ sl, HashAt w b lo sl T f st t ∧ col b = i ∧ ∀ y, sl.a = some y → col y.block = i
/-- New blocks take the colour i. -/
def paint (w : World) (col : Nat → Nat) (i k : Nat) : Nat := if k < w.heap.size then col k else i
section
variable {w w' : World} {col : Nat → Nat} {i j b lo : Nat} {T : TypeId} {f : List ShaM.W → List UInt8 → List ShaM.W} {st : List ShaM.W} {t : List UInt8}
theorem HashAt.slb {sl : Sl} (h : HashAt w b lo sl T f st t) {y : Addr} (hy : sl.a = some y) : lo ≤ y.block ∧ y.block < w.heap.size := by
  rcases h.own with ⟨h1, _⟩ | ⟨h1, _⟩
  · rw [h1] at hy; cases hy
  · exact h1.blk hy
theorem Obj1.still (h : Obj1 w col i b lo T f st t) (hf : Fr (fun _ => False) w w') : Obj1 w' col i b lo T f st t := by
  obtain ⟨sl, h1, h2, h3⟩ := h
  exact ⟨sl, h1.keep hf (by simp) (by simp), h2, h3⟩
theorem Obj1.other (h : Obj1 w col j b lo T f st t) (hij : j ≠ i) (hf : Fr (fun k => lo ≤ k ∧ col k = i) w w') : Obj1 w' (paint w col i) j b lo T f st t := by
  obtain ⟨sl, h1, h2, h3⟩ := h
  obtain ⟨r, hr, hb⟩ := h1.blk
  have hlt := lt_blk hb
  refine ⟨sl, h1.keep hf (fun h => hij (h2.symm.trans h.2)) (fun y hy h => hij ((h3 y hy).symm.trans h.2)), ?_, fun y hy => ?_⟩
  · unfold paint; rw [if_pos hlt, h2]
  · unfold paint; rw [if_pos (h1.slb hy).2, h3 y hy]
theorem Obj1.size (h : Obj1 w col i b lo T f st t) : b < w.heap.size ∧ lo ≤ b := by
  obtain ⟨sl, h1, h2, h3⟩ := h
  obtain ⟨r, hr, hb⟩ := h1.blk
  exact ⟨lt_blk hb, h1.lob⟩
theorem Obj1.wrote {sl sl' : Sl} {t' : List UInt8} (h : HashAt w b lo sl T f st t) (h2 : col b = i) (h3 : ∀ y, sl.a = some y → col y.block = i) (h' : HashAt w' b lo sl' T f st t') (hf : Fr (fun k => k = b ∨ Vc.At sl k) w w') (hs : Since w sl sl') :
    Obj1 w' (paint w col i) i b lo T f st t' ∧ Fr (fun k => lo ≤ k ∧ col k = i) w w' := by
  obtain ⟨r, hr, hb⟩ := h.blk
  have hlt := lt_blk hb
  refine ⟨⟨sl', h', by unfold paint; rw [if_pos hlt, h2], fun y hy => ?_⟩, hf.mono fun k hk hx => ?_⟩
  · unfold paint
    rcases hs y hy with ⟨z, hz, hzb⟩ | hn
    · rw [← hzb, if_pos (h.slb hz).2]; exact h3 z hz
    · rw [if_neg (by omega)]
  · rcases hx with rfl | ⟨y, hy, rfl⟩
    · exact ⟨h.lob, h2⟩
    · exact ⟨(h.slb hy).1, h3 y hy⟩
theorem o1write (h : Obj1 w col i b lo T block1 start1 t) (x : ByteArray) (hx : t.length + x.size ≤ 1099511627776) :
    Calls Try.prog F_sha_Hash1_Write #[.pointer (some ⟨b, 0, none⟩), .string x] w fun e w' => e = .returned (.tuple #[]) ∧ Obj1 w' (paint w col i) i b lo T block1 start1 (t ++ x.data.toList) ∧ Fr (fun k => lo ≤ k ∧ col k = i) w w' := by
  obtain ⟨sl, h1, h2, h3⟩ := h
  refine (h1write_spec h1 x hx).mono ?_
  rintro e w' ⟨rfl, sl', h', hf, hs⟩
  exact ⟨rfl, Obj1.wrote h1 h2 h3 h' hf hs⟩
theorem o256write (h : Obj1 w col i b lo T (block2 K256) start2 t) (x : ByteArray) (hx : t.length + x.size ≤ 1099511627776) :
    Calls Try.prog F_sha_Hash256_Write #[.pointer (some ⟨b, 0, none⟩), .string x] w fun e w' => e = .returned (.tuple #[]) ∧ Obj1 w' (paint w col i) i b lo T (block2 K256) start2 (t ++ x.data.toList) ∧ Fr (fun k => lo ≤ k ∧ col k = i) w w' := by
  obtain ⟨sl, h1, h2, h3⟩ := h
  refine (h256write_spec h1 x hx).mono ?_
  rintro e w' ⟨rfl, sl', h', hf, hs⟩
  exact ⟨rfl, Obj1.wrote h1 h2 h3 h' hf hs⟩
theorem o1sum (h : Obj1 w col i b lo T block1 start1 t) (hx : t.length + 200 ≤ 1099511627776) :
    Calls Try.prog F_sha_Hash1_Sum #[.pointer (some ⟨b, 0, none⟩)] w fun e w' => e = .returned (.string ⟨(digest block1 start1 t).toArray⟩) ∧ Fr (fun _ => False) w w' := by
  obtain ⟨sl, h1, _⟩ := h
  exact h1sum_spec h1 hx
theorem o256sum (h : Obj1 w col i b lo T (block2 K256) start2 t) (hx : t.length + 200 ≤ 1099511627776) :
    Calls Try.prog F_sha_Hash256_Sum #[.pointer (some ⟨b, 0, none⟩)] w fun e w' => e = .returned (.string ⟨(digest (block2 K256) start2 t).toArray⟩) ∧ Fr (fun _ => False) w w' := by
  obtain ⟨sl, h1, _⟩ := h
  exact h256sum_spec h1 hx
theorem Obj1.zero (lo : Nat) (f : List ShaM.W → List UInt8 → List ShaM.W) (st : List ShaM.W) (h : w' = w.alloc (.cells #[.slice none 0 0, .string ⟨#[]⟩, .int .u64 0] T)) (hlo : lo ≤ w.heap.size) : Obj1 w' (fun k => k - lo) (w.heap.size - lo) w.heap.size lo T f st [] :=
  ⟨⟨none, 0, 0⟩, ⟨hlo, ⟨⟨#[]⟩, rfl, by rw [h]; exact alloc_new _ _⟩, Nat.zero_le _, (fun y hy => by cases hy), .inl ⟨rfl, rfl⟩⟩, rfl, fun y hy => by cases hy⟩
end

/-- A text in a slice. -/
def IsStr (vs : List Value) : Prop := ∃ s, vs = [.string s] ∧ s.size ≤ maxLen
def IsBool (vs : List Value) : Prop := ∃ b, vs = [.bool b]
theorem str_at {w w1 : World} {a : Option Addr} {len : Nat} (h : IsRows 1 IsStr w a len) {i : Nat} (hi : i < len) (hf : Fr (fun b => w.heap.size ≤ b) w w1) : ∃ x s, a = some x ∧ w1.cell? (x.add (i * 1)) = some (.string s) := by
  obtain ⟨x, vs, ha, hl, ⟨s, rfl, _⟩, hc⟩ := h.at hi hf
  exact ⟨x, s, ha, by have := hc 0 _ rfl; rwa [add_add, Nat.add_zero] at this⟩
theorem bool_at {w w1 : World} {a : Option Addr} {len : Nat} (h : IsRows 1 IsBool w a len) {i : Nat} (hi : i < len) (hf : Fr (fun b => w.heap.size ≤ b) w w1) : ∃ x s, a = some x ∧ w1.cell? (x.add (i * 1)) = some (.bool s) := by
  obtain ⟨x, vs, ha, hl, ⟨s, rfl⟩, hc⟩ := h.at hi hf
  exact ⟨x, s, ha, by have := hc 0 _ rfl; rwa [add_add, Nat.add_zero] at this⟩

theorem parts_walk (a0 : Option Addr) (len0 cap0 : Nat) (W : World) (w0 : IsRows 1 IsStr W a0 len0) : Calls Try.prog F_cartularylaw02_ShaParts #[.slice a0 len0 cap0] W fun e w' => e = .returned (.bool true) ∧ RowKit.Below W.heap.size W w' := by
  refine vc_cartularylaw02_ShaParts_ok (R := fun v w' => v = .bool true ∧ Fr (fun k => W.heap.size ≤ k) W w') ?_ (fun v w' h => ⟨by rw [h.1], h.2.below (Nat.le_refl _)⟩)
  intro w1 hw1 w2 hw2
  have f1 : Fr (fun _ => False) W w1 := hw1 ▸ Fr.alloc _ _ _
  have f2 : Fr (fun _ => False) w1 w2 := hw2 ▸ Fr.alloc _ _ _
  have hz1 := Obj1.zero (T := T_sha_Hash1) W.heap.size block1 start1 hw1 (Nat.le_refl _)
  have hz2 := Obj1.zero (T := T_sha_Hash256) W.heap.size (block2 K256) start2 hw2 f1.size
  have hs1 : w1.heap.size = W.heap.size + 1 := by rw [hw1]; simp
  rw [Nat.sub_self] at hz1
  rw [hs1, Nat.add_sub_cancel_left] at hz2
  rw [hs1]
  generalize hB : W.heap.size = B at hz1 hz2
  have fW2 : Fr (fun k => B ≤ k) W w2 := (f1.trans' f2).mono (by simp)
  have hd1 := fun (x : ByteArray) h w => sum1_spec x h w
  have hr1 := fun (x : ByteArray) h w => rsum1_spec x h w
  have hd2 := fun (x : ByteArray) h w => sum256_spec x h w
  refine ⟨fun s w' => ∃ col, Obj1 w' col 0 B B T_sha_Hash1 block1 start1 s.data.toList ∧ Obj1 w' col 1 (B + 1) B T_sha_Hash256 (block2 K256) start2 s.data.toList ∧ s.size ≤ 4000 ∧ Fr (fun k => B ≤ k) W w', ?_, ?_⟩
  · refine ⟨fun s i w' => ∃ (k : Nat) (col : Nat → Nat), k ≤ 20 ∧ i = (k : Int) ∧ Obj1 w' col 0 B B T_sha_Hash1 block1 start1 s.data.toList ∧ Obj1 w' col 1 (B + 1) B T_sha_Hash256 (block2 K256) start2 s.data.toList ∧ s.size ≤ 200 * k ∧ Fr (fun k => B ≤ k) W w', fun _ i _ => ((len0 : Int) - i).toNat,
      ⟨0, _, by decide, rfl, hz1.still f2, hz2, by decide, fW2⟩, ?_⟩
    rintro s i w8 ⟨k, col, hk, rfl, oa, ob, hsz, f8⟩
    refine ⟨fun hlt => ⟨fun h20 => ?_, fun _ => ⟨col, oa, ob, by omega, f8⟩⟩, fun _ => ⟨col, oa, ob, by omega, f8⟩⟩
    have hlt := of_decide_eq_true hlt
    have h20 := of_decide_eq_true h20
    obtain ⟨x, t, hx, hc⟩ := str_at w0 (i := k) (by omega) (by rw [hB]; exact f8)
    have e1 : IntKind.i64.wrap ((k : Int) + 1) = ((k + 1 : Nat) : Int) := by rw [wrap_i64 (by omega) (by omega)]; omega
    rw [e1]
    refine ⟨⟨by omega, by omega⟩, x, hx, t, by rw [Int.toNat_natCast]; exact hc, ?_⟩
    refine (few_spec t 200 w8).mono ?_
    rintro e w12 ⟨rfl, rfl⟩
    have ht := few_len t 200
    generalize (if t.size > 200 then t.extract 0 200 else t) = y at ht
    have hsl : s.data.toList.length = s.size := by simp
    have hst : (s ++ y).data.toList = s.data.toList ++ y.data.toList := by rw [ByteArray.data_append, Array.toList_append]
    have hsy : (s ++ y).size = s.size + y.size := ByteArray.size_append
    refine ⟨y, rfl, ?_⟩
    refine (o1write oa y (by omega)).mono ?_
    rintro e w15 ⟨rfl, oa15, f15⟩
    have ob15 := ob.other (i := 0) (by decide) f15
    refine ⟨rfl, (o256write ob15 y (by omega)).mono ?_⟩
    rintro e w17 ⟨rfl, ob17, f17⟩
    have oa17 := oa15.other (i := 1) (by decide) f17
    rw [← hst] at oa17 ob17
    have fW17 : Fr (fun k => B ≤ k) W w17 := (f8.trans f15 (fun q _ h => h.1)).trans f17 (fun q _ h => h.1)
    have hlen : (s ++ y).data.toList.length = (s ++ y).size := by simp
    refine ⟨rfl, by omega, ?_⟩
    have hq1 := fun {w'} (h : Fr (fun _ => False) w17 w') => o1sum (oa17.still h) (by omega)
    have hq2 := fun {w'} (h : Fr (fun _ => False) w17 w') => o256sum (ob17.still h) (by omega)
    have hd1' := fun w => hd1 (s ++ y) (by omega) w
    have hr1' := fun w => hr1 (s ++ y) (by omega) w
    have hd2' := fun w => hd2 (s ++ y) (by omega) w
    generalize digest block1 start1 (s ++ y).data.toList = D1 at hq1 hd1' hr1'
    generalize digest (block2 K256) start2 (s ++ y).data.toList = D2 at hq2 hd2'
    refine (hq1 (.refl _ _)).mono ?_
    rintro e w19 ⟨rfl, f19⟩
    refine ⟨_, rfl, (hd1' w19).mono ?_⟩
    rintro e w22 ⟨rfl, f22⟩
    have f17_22 := f19.trans' f22
    refine ⟨_, rfl, (fun h => by rw [beq_self_eq_true] at h; cases h), fun _ => ?_⟩
    refine (hq2 f17_22).mono ?_
    rintro e w25 ⟨rfl, f25⟩
    refine ⟨_, rfl, (hd2' w25).mono ?_⟩
    rintro e w28 ⟨rfl, f28⟩
    have f17_28 := (f17_22.trans' f25).trans' f28
    refine ⟨_, rfl, (fun h => by rw [beq_self_eq_true] at h; cases h), fun _ => ?_⟩
    refine (hq1 f17_28).mono ?_
    rintro e w31 ⟨rfl, f31⟩
    refine ⟨_, rfl, (hr1' w31).mono ?_⟩
    rintro e w34 ⟨rfl, f34⟩
    have f17_34 := (f17_28.trans' f31).trans' f34
    refine ⟨_, rfl, (fun h => by rw [beq_self_eq_true] at h; cases h), fun _ => ⟨⟨k + 1, _, by omega, rfl, oa17.still f17_34, ob17.still f17_34, by omega, fW17.up2 f17_34⟩, by dsimp only; omega⟩⟩
  rintro s w37 ⟨col, oa, ob, hsz, f37⟩
  refine (awake2_spec w37).mono ?_
  rintro e w39 ⟨rfl, f39⟩
  have hlen : s.data.toList.length = s.size := by simp
  have hq1 := fun {w'} (h : Fr (fun _ => False) w37 w') => o1sum (oa.still h) (by omega)
  have hq2 := fun {w'} (h : Fr (fun _ => False) w37 w') => o256sum (ob.still h) (by omega)
  have hd1' := fun w => hd1 s (by omega) w
  have hd2' := fun w => hd2 s (by omega) w
  generalize digest block1 start1 s.data.toList = D1 at hq1 hd1'
  generalize digest (block2 K256) start2 s.data.toList = D2 at hq2 hd2'
  refine ⟨true, rfl, fun _ => ?_, fun h => by cases h⟩
  refine (hq1 f39).mono ?_
  rintro e w42 ⟨rfl, f42⟩
  refine ⟨_, rfl, (hd1' w42).mono ?_⟩
  rintro e w45 ⟨rfl, f45⟩
  have f37_45 := (f39.trans' f42).trans' f45
  refine ⟨_, rfl, fun _ => ?_, fun h => by rw [beq_self_eq_true] at h; cases h⟩
  refine (hq2 f37_45).mono ?_
  rintro e w48 ⟨rfl, f48⟩
  refine ⟨_, rfl, (hd2' w48).mono ?_⟩
  rintro e w51 ⟨rfl, f51⟩
  exact ⟨_, rfl, by rw [beq_self_eq_true], f37.up2 ((f37_45.trans' f48).trans' f51)⟩

theorem asks_walk (a0 : Option Addr) (len0 cap0 : Nat) (a1 : Option Addr) (len1 cap1 : Nat) (W : World) (w0 : IsRows 1 IsStr W a0 len0) (w1 : IsRows 1 IsBool W a1 len1) :
    Calls Try.prog F_cartularylaw02_ShaAsks #[.slice a0 len0 cap0, .slice a1 len1 cap1] W fun e w' => e = .returned (.bool true) ∧ RowKit.Below W.heap.size W w' := by
  refine vc_cartularylaw02_ShaAsks_ok (R := fun v w' => v = .bool true ∧ Fr (fun k => W.heap.size ≤ k) W w') ?_ (fun v w' h => ⟨by rw [h.1], h.2.below (Nat.le_refl _)⟩)
  intro v1 hv1 v2 hv2 v3 hv3 v4 hv4 v5 hv5
  have f1 : Fr (fun _ => False) W v1 := hv1 ▸ Fr.alloc _ _ _
  have f2 : Fr (fun _ => False) v1 v2 := hv2 ▸ Fr.alloc _ _ _
  have f3 : Fr (fun _ => False) v2 v3 := hv3 ▸ Fr.alloc _ _ _
  have f4 : Fr (fun _ => False) v3 v4 := hv4 ▸ Fr.alloc _ _ _
  have f5 : Fr (fun _ => False) v4 v5 := hv5 ▸ Fr.alloc _ _ _
  have s1 : v1.heap.size = W.heap.size + 1 := by rw [hv1]; simp
  have s2 : v2.heap.size = W.heap.size + 2 := by rw [hv2]; simp [s1]
  have s3 : v3.heap.size = W.heap.size + 3 := by rw [hv3]; simp [s2]
  have s4 : v4.heap.size = W.heap.size + 4 := by rw [hv4]; simp [s3]
  have za := Obj1.zero (T := T_sha_Hash1) W.heap.size block1 start1 hv1 (Nat.le_refl _)
  have zb := Obj1.zero (T := T_sha_Hash1) W.heap.size block1 start1 hv2 (by omega)
  have zo := Obj1.zero (T := T_sha_Hash1) W.heap.size block1 start1 hv3 (by omega)
  have zc := Obj1.zero (T := T_sha_Hash256) W.heap.size (block2 K256) start2 hv4 (by omega)
  have zd := Obj1.zero (T := T_sha_Hash256) W.heap.size (block2 K256) start2 hv5 (by omega)
  rw [Nat.sub_self] at za
  rw [s1, Nat.add_sub_cancel_left] at zb
  rw [s2, Nat.add_sub_cancel_left] at zo
  rw [s3, Nat.add_sub_cancel_left] at zc
  rw [s4, Nat.add_sub_cancel_left] at zd
  rw [s1, s2, s3, s4]
  generalize hB : W.heap.size = B at za zb zo zc zd
  have fW5 : Fr (fun k => B ≤ k) W v5 := ((((f1.trans' f2).trans' f3).trans' f4).trans' f5).mono (by simp)
  let All : List UInt8 → List UInt8 → (Nat → Nat) → World → Prop := fun t u col w => Obj1 w col 0 B B T_sha_Hash1 block1 start1 t ∧ Obj1 w col 1 (B + 1) B T_sha_Hash1 block1 start1 t ∧ Obj1 w col 2 (B + 2) B T_sha_Hash1 block1 start1 u ∧
    Obj1 w col 3 (B + 3) B T_sha_Hash256 (block2 K256) start2 t ∧ Obj1 w col 4 (B + 4) B T_sha_Hash256 (block2 K256) start2 t
  have still : ∀ {t u col} {w w' : World}, All t u col w → Fr (fun _ => False) w w' → All t u col w' := fun ⟨h1, h2, h3, h4, h5⟩ hf => ⟨h1.still hf, h2.still hf, h3.still hf, h4.still hf, h5.still hf⟩
  refine ⟨fun w' => ∃ t u col, All t u col w' ∧ t.length ≤ 4000 ∧ Fr (fun k => B ≤ k) W w', ?_, ?_⟩
  · refine ⟨fun i w' => ∃ (k : Nat) (t u : List UInt8) (col : Nat → Nat), k ≤ 20 ∧ i = (k : Int) ∧ All t u col w' ∧ t.length ≤ 200 * k ∧ u.length ≤ 201 * k ∧ Fr (fun k => B ≤ k) W w', fun i _ => ((len0 : Int) - i).toNat,
      ⟨0, [], [], _, by decide, rfl, ⟨(((za.still f2).still f3).still f4).still f5, ((zb.still f3).still f4).still f5, (zo.still f4).still f5, zc.still f5, zd⟩, by decide, by decide, fW5⟩, ?_⟩
    rintro i w10 ⟨k, t, u, col, hk, rfl, ⟨oa, ob, oo, oc, od⟩, htl, hul, f10⟩
    refine ⟨fun hlt => ⟨fun h20 => ?_, fun _ => ⟨t, u, col, ⟨oa, ob, oo, oc, od⟩, by omega, f10⟩⟩, fun _ => ⟨t, u, col, ⟨oa, ob, oo, oc, od⟩, by omega, f10⟩⟩
    have hlt := of_decide_eq_true hlt
    have h20 := of_decide_eq_true h20
    obtain ⟨x, s, hx, hc⟩ := str_at w0 (i := k) (by omega) (by rw [hB]; exact f10)
    have e1 : IntKind.i64.wrap ((k : Int) + 1) = ((k + 1 : Nat) : Int) := by rw [wrap_i64 (by omega) (by omega)]; omega
    rw [e1]
    refine ⟨⟨by omega, by omega⟩, x, hx, s, by rw [Int.toNat_natCast]; exact hc, ?_⟩
    refine (few_spec s 200 w10).mono ?_
    rintro e w14 ⟨rfl, rfl⟩
    have hs := few_len s 200
    generalize (if s.size > 200 then s.extract 0 200 else s) = y at hs
    have hyl : y.data.toList.length = y.size := by simp
    have hq : (ByteArray.mk (Array.mk [63])).size = 1 := rfl
    have hqy : (ByteArray.mk (Array.mk [63]) ++ y).size = 1 + y.size := by rw [ByteArray.size_append, hq]
    have szl : ∀ A : ByteArray, A.data.toList.length = A.size := fun A => by simp
    have hqyl : (ByteArray.mk (Array.mk [63]) ++ y).data.toList.length = 1 + y.size := by rw [← hqy, szl]
    refine ⟨y, rfl, ?_⟩
    refine (o1write oa y (by omega)).mono ?_
    rintro e w17 ⟨rfl, oa, f17⟩
    have ob := ob.other (i := 0) (by decide) f17
    have oo := oo.other (i := 0) (by decide) f17
    have oc := oc.other (i := 0) (by decide) f17
    have od := od.other (i := 0) (by decide) f17
    refine ⟨rfl, by omega, ?_⟩
    refine (o1write oo (ByteArray.mk (Array.mk [63]) ++ y) (by omega)).mono ?_
    rintro e w19 ⟨rfl, oo, f19⟩
    have oa := oa.other (i := 2) (by decide) f19
    have ob := ob.other (i := 2) (by decide) f19
    have oc := oc.other (i := 2) (by decide) f19
    have od := od.other (i := 2) (by decide) f19
    refine ⟨rfl, ?_⟩
    refine (o1write ob y (by omega)).mono ?_
    rintro e w21 ⟨rfl, ob, f21⟩
    have oa := oa.other (i := 1) (by decide) f21
    have oo := oo.other (i := 1) (by decide) f21
    have oc := oc.other (i := 1) (by decide) f21
    have od := od.other (i := 1) (by decide) f21
    refine ⟨rfl, ?_⟩
    refine (o256write oc y (by omega)).mono ?_
    rintro e w23 ⟨rfl, oc, f23⟩
    have oa := oa.other (i := 3) (by decide) f23
    have ob := ob.other (i := 3) (by decide) f23
    have oo := oo.other (i := 3) (by decide) f23
    have od := od.other (i := 3) (by decide) f23
    refine ⟨rfl, ?_⟩
    refine (o256write od y (by omega)).mono ?_
    rintro e w25 ⟨rfl, od, f25⟩
    have oa := oa.other (i := 4) (by decide) f25
    have ob := ob.other (i := 4) (by decide) f25
    have oo := oo.other (i := 4) (by decide) f25
    have oc := oc.other (i := 4) (by decide) f25
    have fW25 : Fr (fun k => B ≤ k) W w25 := ((((f10.trans f17 (fun q _ h => h.1)).trans f19 (fun q _ h => h.1)).trans f21 (fun q _ h => h.1)).trans f23 (fun q _ h => h.1)).trans f25 (fun q _ h => h.1)
    have next : ∀ {w' : World}, Fr (fun _ => False) w25 w' → ∃ (k' : Nat) (t u : List UInt8) (col : Nat → Nat), k' ≤ 20 ∧ ((k + 1 : Nat) : Int) = (k' : Int) ∧ All t u col w' ∧ t.length ≤ 200 * k' ∧ u.length ≤ 201 * k' ∧ Fr (fun k => B ≤ k) W w' := fun hf =>
      ⟨k + 1, _, _, _, by omega, rfl, still ⟨oa, ob, oo, oc, od⟩ hf, by rw [List.length_append]; omega, by rw [List.length_append]; omega, fW25.up2 hf⟩
    refine ⟨rfl, fun hl1 => ?_, fun _ => ⟨next (.refl _ _), by dsimp only; omega⟩⟩
    have hl1 := of_decide_eq_true hl1
    obtain ⟨x2, b2, hx2, hc2⟩ := bool_at w1 (i := k) (by omega) (by rw [hB]; exact fW25)
    refine ⟨⟨by omega, by omega⟩, x2, hx2, b2, by rw [Int.toNat_natCast]; exact hc2, fun _ => ?_, fun _ => ⟨next (.refl _ _), by dsimp only; omega⟩⟩
    refine (o1sum oa (by rw [List.length_append]; omega)).mono ?_
    rintro e w29 ⟨rfl, f29⟩
    refine ⟨_, rfl, (o256sum (oc.still f29) (by rw [List.length_append]; omega)).mono ?_⟩
    rintro e w32 ⟨rfl, f32⟩
    refine ⟨_, rfl, (o256sum ((oc.still f29).still f32) (by rw [List.length_append]; omega)).mono ?_⟩
    rintro e w35 ⟨rfl, f35⟩
    exact ⟨_, rfl, next ((f29.trans' f32).trans' f35), by dsimp only; omega⟩
  rintro w37 ⟨t, u, col, ⟨oa, ob, oo, oc, od⟩, htl, f37⟩
  refine (awake2_spec w37).mono ?_
  rintro e w39 ⟨rfl, f39⟩
  refine ⟨true, rfl, fun _ => ?_, fun h => by cases h⟩
  have ha := fun {w'} (h : Fr (fun _ => False) w37 w') => o1sum (oa.still h) (by omega)
  have hb := fun {w'} (h : Fr (fun _ => False) w37 w') => o1sum (ob.still h) (by omega)
  have hc := fun {w'} (h : Fr (fun _ => False) w37 w') => o256sum (oc.still h) (by omega)
  have hd := fun {w'} (h : Fr (fun _ => False) w37 w') => o256sum (od.still h) (by omega)
  have l1 := dig1_len t
  have l2 := dig2_len K256 t
  generalize digest block1 start1 t = D1 at ha hb l1
  generalize digest (block2 K256) start2 t = D2 at hc hd l2
  refine (ha f39).mono ?_
  rintro e w42 ⟨rfl, f42⟩
  have g42 := f39.trans' f42
  refine ⟨_, rfl, (hb g42).mono ?_⟩
  rintro e w45 ⟨rfl, f45⟩
  have g45 := g42.trans' f45
  refine ⟨_, rfl, fun _ => ?_, fun h => by rw [beq_self_eq_true] at h; cases h⟩
  refine (hc g45).mono ?_
  rintro e w48 ⟨rfl, f48⟩
  have g48 := g45.trans' f48
  refine ⟨_, rfl, (hd g48).mono ?_⟩
  rintro e w51 ⟨rfl, f51⟩
  have g51 := g48.trans' f51
  refine ⟨_, rfl, fun _ => ?_, fun h => by rw [beq_self_eq_true] at h; cases h⟩
  refine (ha g51).mono ?_
  rintro e w54 ⟨rfl, f54⟩
  have g54 := g51.trans' f54
  have z1 : ((ByteArray.mk D1.toArray).size : Int) = 20 := by show ((D1.toArray.size : Nat) : Int) = 20; rw [List.size_toArray, l1]; rfl
  have z2 : ((ByteArray.mk D2.toArray).size : Int) = 32 := by show ((D2.toArray.size : Nat) : Int) = 32; rw [List.size_toArray, l2]; rfl
  refine ⟨_, rfl, fun _ => ?_, fun h => by rw [z1] at h; cases h⟩
  refine (hc g54).mono ?_
  rintro e w57 ⟨rfl, f57⟩
  exact ⟨_, rfl, by rw [z2]; rfl, f37.up2 (g54.trans' f57)⟩
end Go.Proofs.Ytcboiljbkkleiaa
