/- Bytes that were there before. Conditions: the state and the table are in order, and lie apart. -/
import Derived.Test.YtofejgaanpaieaaInfC
set_option linter.unusedVariables false
namespace InfM
theorem copy_succ (back : Nat) : ∀ (k : Nat) (out : List UInt8), copy back (k + 1) out = copy back k out ++ [(copy back k out).getD ((copy back k out).length - back) 0]
  | 0, _ => rfl
  | k + 1, out => by rw [copy, copy_succ back k, ← copy]
theorem copy_length (back : Nat) : ∀ (k : Nat) (out : List UInt8), (copy back k out).length = out.length + k
  | 0, _ => rfl
  | k + 1, out => by rw [copy, copy_length back k, List.length_append]; simp; omega
theorem lenBase_le : ∀ i, i ≤ 28 → (lenBase i).1 ≤ 258 ∧ (lenBase i).2 ≤ 5 := by decide +kernel
theorem distBase_le : ∀ i, i ≤ 29 → 1 ≤ (distBase i).1 ∧ (distBase i).1 ≤ 24577 ∧ (distBase i).2 ≤ 13 := by decide +kernel
end InfM
namespace Go.Proofs.Ytofejgaanpaieaa
open Go Vc BitsM HuffM Go.Proofs
theorem ne_err {z : Int} {e : Nat} (h : (z != 0) = true) (hz : z = (e : Int)) : e ≠ 0 := fun h0 => by subst h0; subst hz; simp at h

theorem repeat_spec {w : World} {base b rb off p most : Nat} {sl : Sl} {s : ByteArray} {out : List UInt8} (h : St w base b rb sl s off p out most)
    {lo hi db x : Nat} {dist : List Nat} (ht : Tab w lo hi db dist) (hrb : rb < lo ∨ hi ≤ rb) (hx : 257 ≤ x) (hx2 : x < 1000) :
    Calls Try.prog F_inflate_state_repeat #[.pointer (some ⟨b, 0, none⟩), .int .i64 (x : Int), .pointer (some ⟨db, 0, none⟩)] w fun e w' =>
      ∃ err : Int, e = .returned (.int .i64 err) ∧ Rs w w' base b rb sl s off most (InfM.rep dist most (bitsFrom s off) x p out) err := by
  refine vc_inflate_state_repeat_ok (R := fun v w' => ∃ err : Int, v = .int .i64 err ∧ Rs w w' base b rb sl s off most (InfM.rep dist most (bitsFrom s off) x p out) err) ?_ (fun v w' ⟨e, h⟩ => ⟨e, by rw [h.1], h.2⟩)
  generalize hB : bitsFrom s off = B
  have rsub : ∀ {w1 w2 : World}, Fr (· = rb) w1 w2 → Fr (SX b rb sl) w1 w2 := fun hf => hf.mono fun k _ hk => .inr (.inl hk)
  refine ⟨fun hgt => ?_, fun hle => ?_⟩
  · have hgt := of_decide_eq_true hgt
    rw [InfM.rep, if_pos (by omega)]
    exact ⟨3, rfl, .refl _ _, rfl, by decide⟩
  have hle := of_decide_eq_false hle
  have hx285 : x ≤ 285 := by omega
  have e1 : IntKind.i64.wrap ((x : Int) - 257) = ((x - 257 : Nat) : Int) := by rw [wrap_i64 (by omega) (by omega)]; omega
  rw [e1, InfM.rep, if_neg (by omega)]
  obtain ⟨hl1, hl2⟩ := InfM.lenBase_le (x - 257) (by omega)
  refine (lbase_spec (x - 257) (by omega) w).mono ?_
  rintro e w2 ⟨rfl, hw2⟩
  replace hw2 := hw2.symm
  subst hw2
  generalize InfM.lenBase (x - 257) = L at hl1 hl2 ⊢
  refine ⟨_, _, rfl, _, h.c0, ?_⟩
  refine (stbits_spec h (n := L.2) (by omega)).mono ?_
  rw [hB]
  rintro e w7 ⟨hf7, ⟨more, p7, htk, hmore, hp7, rfl, h7⟩ | ⟨htk, rfl⟩⟩
  rotate_left
  · rw [htk]
    exact ⟨_, _, rfl, fun _ => ⟨6, rfl, rsub hf7, rfl, by decide⟩, fun hh => by cases hh⟩
  simp only [htk]
  have hm5 : 2 ^ L.2 ≤ 2 ^ 5 := Nat.pow_le_pow_right (by decide) hl2
  refine ⟨_, _, rfl, fun hh => (by cases hh), fun _ => ⟨_, h7.c0, ?_⟩⟩
  have ht7 := ht.keep hf7 (fun k h1 h2 hk => by omega)
  refine (stread_spec h7 ht7 hrb).mono ?_
  rw [hB]
  rintro e w12 ⟨hf12, ⟨d, p12, hsy, hp12, hd, rfl, h12⟩ | ⟨err, hsy, hne, rfl⟩⟩
  rotate_left
  · rw [hsy]
    refine ⟨_, _, rfl, fun _ => ⟨err, rfl, rsub (hf7.trans' hf12), rfl, hne⟩, fun hh => ?_⟩
    exact absurd hh (by simpa using hne)
  simp only [hsy]
  refine ⟨_, _, rfl, fun hh => (by simp at hh), fun _ => ⟨fun hgt => ?_, fun hle => ?_⟩⟩
  · have hgt := of_decide_eq_true hgt
    rw [if_pos (by omega)]
    exact ⟨3, rfl, rsub (hf7.trans' hf12), rfl, by decide⟩
  have hle := of_decide_eq_false hle
  rw [if_neg (by omega)]
  obtain ⟨hd1, hd2, hd3⟩ := InfM.distBase_le d (by omega)
  refine (dbase_spec d (by omega) w12).mono ?_
  rintro e w16 ⟨rfl, hw16⟩
  replace hw16 := hw16.symm
  subst hw16
  generalize InfM.distBase d = D at hd1 hd2 hd3 ⊢
  refine ⟨_, _, rfl, _, h12.c0, ?_⟩
  refine (stbits_spec h12 (n := D.2) (by omega)).mono ?_
  rw [hB]
  rintro e w21 ⟨hf21, ⟨far, p21, htk2, hfar, hp21, rfl, h21⟩ | ⟨htk2, rfl⟩⟩
  rotate_left
  · rw [htk2]
    exact ⟨_, _, rfl, fun _ => ⟨6, rfl, rsub ((hf7.trans' hf12).trans' hf21), rfl, by decide⟩, fun hh => by cases hh⟩
  simp only [htk2]
  have hm13 : 2 ^ D.2 ≤ 2 ^ 13 := Nat.pow_le_pow_right (by decide) hd3
  have hfr21 := (hf7.trans' hf12).trans' hf21
  have eback : IntKind.i64.wrap ((D.1 : Int) + IntKind.i64.wrap (far : Int)) = ((D.1 + far : Nat) : Int) := by
    rw [wrap_i64 (x := (far : Int)) (by omega) (by omega), wrap_i64 (by omega) (by omega)]; omega
  have en : IntKind.i64.wrap ((L.1 : Int) + IntKind.i64.wrap (more : Int)) = ((L.1 + more : Nat) : Int) := by
    rw [wrap_i64 (x := (more : Int)) (by omega) (by omega), wrap_i64 (by omega) (by omega)]; omega
  refine ⟨_, _, rfl, fun hh => (by cases hh), fun _ => ?_⟩
  rw [eback, en]
  have hback1 : 1 ≤ D.1 + far := by omega
  have hback2 : D.1 + far ≤ 40000 := by omega
  have hn2 : L.1 + more ≤ 300 := by omega
  generalize D.1 + far = back at hback1 hback2 ⊢
  generalize L.1 + more = n at hn2 ⊢
  refine ⟨_, h21.c1, fun hgt => ?_, fun hle => ?_⟩
  · have hgt := of_decide_eq_true hgt
    rw [h21.len] at hgt
    rw [if_pos (by omega)]
    exact ⟨3, rfl, rsub hfr21, rfl, by decide⟩
  have hle := of_decide_eq_false hle
  rw [h21.len] at hle
  rw [if_neg (by omega)]
  have hout := h21.fit
  have hmost := h21.small
  refine ⟨fun i w28 => ∃ k : Nat, i = (k : Int) ∧ k ≤ n ∧ ∃ sl', St w28 base b rb sl' s off p21 (InfM.copy back k out) most ∧ Since w sl sl' ∧ Fr (SX b rb sl) w w28, fun i w28 => n - i.toNat, ⟨0, rfl, Nat.zero_le _, sl, h21, .refl _ _, rsub hfr21⟩, ?_⟩
  rintro i w28 ⟨k, rfl, hk, sl', h28, hs28, hf28⟩
  have e3 : IntKind.i64.wrap ((k : Int) + 1) = ((k + 1 : Nat) : Int) := by rw [wrap_i64 (by omega) (by omega)]; omega
  rw [e3]
  have hcl := InfM.copy_length back k out
  have hcs := InfM.copy_succ back k out
  refine ⟨fun hlt w29 d29 => ?_, fun hge => ?_⟩
  · have hlt := of_decide_eq_true hlt
    have h29 := h28.drew d29
    have hlen := h29.len
    have eidx : IntKind.i64.wrap ((sl'.len : Int) - (back : Int)) = ((out.length + k - back : Nat) : Int) := by
      rw [hlen, hcl, wrap_i64 (by omega) (by omega)]; omega
    refine ⟨_, h29.c1, _, h29.c1, ?_⟩
    rw [eidx]
    refine ⟨⟨by omega, by rw [hlen, hcl]; omega⟩, ?_⟩
    rw [hcl] at hcs
    generalize hcc : InfM.copy back k out = cur at hcl hcs h28 h29 hlen
    have hlt2 : out.length + k - back < cur.length := by omega
    obtain ⟨a, ha, hc⟩ := h29.own.reads _ _ (show (byteV cur)[out.length + k - back]? = some (.int .u8 ((cur[out.length + k - back]'hlt2).toNat : Int)) by simp [byteV, hlt2])
    refine ⟨a, ha, _, by rw [Int.toNat_natCast, Nat.mul_one]; exact hc, ?_⟩
    refine (put_spec h29 (cur[out.length + k - back]'hlt2).toNat_lt).mono ?_
    rintro e w35 ⟨err, rfl, hf35, hr35⟩
    have hfw : Fr (SX b rb sl) w w35 := (hf28.trans' (.drew _ d29)).trans hf35 fun j hj hsx => by
      rcases hsx with h | h | ⟨y, hy, e⟩
      · exact .inl h
      · exact .inr (.inl h)
      · rcases hs28 y hy with ⟨z, hz, hb⟩ | hn
        · exact .inr (.inr ⟨z, hz, by omega⟩)
        · omega
    refine ⟨_, rfl, fun hne => ?_, fun heq => ?_⟩
    · by_cases hfull : cur.length = most
      · rw [if_pos hfull] at hr35
        obtain ⟨rfl, _⟩ := hr35
        rw [if_pos (by omega)]
        exact ⟨2, rfl, hfw, rfl, by decide⟩
      · rw [if_neg hfull] at hr35
        obtain ⟨rfl, _⟩ := hr35
        simp at hne
    · by_cases hfull : cur.length = most
      · rw [if_pos hfull] at hr35
        obtain ⟨rfl, _⟩ := hr35
        simp at heq
      · rw [if_neg hfull] at hr35
        obtain ⟨_, sl2, h35, hs35⟩ := hr35
        have hg : cur.getD (out.length + k - back) 0 = cur[out.length + k - back]'hlt2 := by simp [List.getD, hlt2]
        rw [UInt8.ofNat_toNat, ← hg, ← hcs] at h35
        exact ⟨⟨k + 1, rfl, by omega, sl2, h35, hs28.trans hs35 (hf28.trans' (.drew _ d29)).size, hfw⟩, by dsimp only; omega⟩
  · have hge := of_decide_eq_false hge
    have hkn : k = n := by omega
    subst hkn
    have := h28.fit
    rw [if_neg (by omega)]
    exact ⟨0, rfl, hf28, rfl, sl', h28, hs28⟩
end Go.Proofs.Ytofejgaanpaieaa
