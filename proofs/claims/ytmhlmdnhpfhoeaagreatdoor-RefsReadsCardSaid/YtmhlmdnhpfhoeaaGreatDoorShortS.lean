/- The laws' Few and Short of files. Conditions: texts are no longer than memory. -/
import Derived.Test.YtmhlmdnhpfhoeaaGreatDoorSnapP
import Derived.Test.YtmhlmdnhpfhoeaaGreatDoorVcSls
import Derived.Test.YtmhlmdnhpfhoeaaGreatDoorHexFU
import Derived.Test.YtmhlmdnhpfhoeaaGreatDoorShort
set_option linter.unusedVariables false
namespace Go.Proofs.YtmhlmdnhpfhoeaaGreatDoor
open Go Vc Go.Proofs

theorem few07_spec {w : World} {a : Option Addr} {n c : Nat} {xs : List FileE} (hr : ReadsK encF 2 w a xs) (hn : xs.length = n) (hc : n ≤ c) (m : Nat) (hm : m ≤ 1000000) : Calls Tryz.prog F_cartularylaw07_Few #[.slice a n c, .int .i64 m] w fun e w' =>
    ∃ l, e = .returned (.slice l.a l.len l.cap) ∧ OwnK encF 2 w' w.heap.size T_api_File l (xs.take m) ∧ Fr (fun _ => False) w w' := by
  refine vc_cartularylaw07_Few_ok (R := fun v w' => ∃ l : Sl, v = .slice l.a l.len l.cap ∧ OwnK encF 2 w' w.heap.size T_api_File l (xs.take m) ∧ Fr (fun _ => False) w w') ?_ (fun v w' ⟨l, h⟩ => ⟨l, by rw [h.1], h.2⟩)
  have key : ∀ (src : Option Addr) (k c' : Nat), ReadsK encF 2 w src (xs.take m) → (xs.take m).length = k → ∀ w1, w1 = w.alloc (.cells #[] T_api_File) →
      ∃ (w2 : World) (l3 : Sl), (Builtin.append_ #[T_S_api_File, T_S_api_File] T_S_api_File #[.slice (some ⟨w.heap.size, 0, none⟩) 0 0, .slice src k c']).run Tryz.prog w1 = .ok (.slice l3.a l3.len l3.cap) w2 ∧ ∃ l : Sl, Value.slice l3.a l3.len l3.cap = .slice l.a l.len l.cap ∧ OwnK encF 2 w2 w.heap.size T_api_File l (xs.take m) ∧ Fr (fun _ => False) w w2 := fun src k c' hr hk w1 h1 => by
    have hml : (xs.take m).length ≤ 1000000 := by rw [List.length_take]; omega
    have hf1 : Fr (fun _ => False) w w1 := by rw [h1]; exact .alloc _ _ _
    have ho1 : OwnK encF 2 w1 w.heap.size T_api_File ⟨some ⟨w.heap.size, 0, none⟩, 0, 0⟩ [] := by rw [h1]; exact .empty w T_api_File
    obtain ⟨w2, l3, hr2, ho2, hf2⟩ := append_allK elF ho1 c' (hr.keep hf1 (by simp)) (by simp only [List.length_nil, maxLen]; omega) (by simp only [List.length_nil]; omega) hf1.size hk
    exact ⟨w2, l3, hr2, l3, rfl, ho2, hf1.trans hf2 fun q hq ⟨y, hy, e⟩ => by cases hy; simp only at e; omega⟩
  refine ⟨fun h => ⟨⟨by omega, by have := of_decide_eq_true h; omega⟩, fun w1 h1 => ?_⟩, fun h w4 h4 => ?_⟩
  · have h := of_decide_eq_true h
    rw [Int.toNat_natCast]
    have hs := hr.sub (cap := c) (by omega) 0
    rw [List.drop_zero] at hs
    exact key _ _ _ (hs.take m) (by rw [List.length_take]; omega) w1 h1
  · have h := of_decide_eq_false h
    rw [List.take_of_length_le (by omega)] at key ⊢
    exact key _ _ _ hr hn w4 h4
def fewB (s : ByteArray) (n : Nat) : ByteArray := if s.size > n then s.extract 0 n else s
theorem fewB_size (s : ByteArray) (n : Nat) : (fewB s n).size ≤ n ∧ (fewB s n).size ≤ s.size := by
  unfold fewB
  split
  · rw [ByteArray.size_extract]; omega
  · omega
def cutF (n : Nat) (x : FileE) : FileE := ⟨x.path, fewB x.data n⟩
def shortF (xs : List FileE) (m : Nat) : List FileE := (xs.take m).map (cutF 3000)
theorem short13_spec {w : World} {a : Option Addr} {n c : Nat} {xs : List FileE} (hr : ReadsK encF 2 w a xs) (hn : xs.length = n) (hc : n ≤ c) (m : Nat) (hm : m ≤ 1000000) : Calls Tryz.prog F_cartularylaw13_Short #[.slice a n c, .int .i64 m] w fun e w' =>
    ∃ l, e = .returned (.slice l.a l.len l.cap) ∧ OwnK encF 2 w' w.heap.size T_api_File l (shortF xs m) ∧ Fr (fun _ => False) w w' := by
  refine vc_cartularylaw13_Short_ok (R := fun v w' => ∃ l : Sl, v = .slice l.a l.len l.cap ∧ OwnK encF 2 w' w.heap.size T_api_File l (shortF xs m) ∧ Fr (fun _ => False) w w') ?_ (fun v w' ⟨l, h⟩ => ⟨l, by rw [h.1], h.2⟩)
  refine (few07_spec hr hn hc m hm).mono ?_
  rintro e w2 ⟨l, rfl, ho, hf2⟩
  have hl := ho.len
  have hml : (xs.take m).length ≤ 1000000 := by rw [List.length_take]; omega
  unfold shortF
  generalize xs.take m = ys at ho hl hml
  refine ⟨l, rfl, fun i w' => ∃ k : Nat, i = k ∧ k ≤ ys.length ∧ OwnK encF 2 w' w.heap.size T_api_File l ((ys.take k).map (cutF 3000) ++ ys.drop k) ∧ Fr (fun _ => False) w w', fun i _ => ys.length - i.toNat, ⟨0, rfl, Nat.zero_le _, by simpa using ho, hf2⟩, ?_⟩
  clear ho
  rintro i w7 ⟨k, rfl, hk, ho, hf⟩
  have e1 : IntKind.i64.wrap ((k : Int) + 1) = ((k + 1 : Nat) : Int) := by rw [wrap_i64 (by omega) (by omega)]; omega
  rw [e1]
  refine ⟨fun hlt => ?_, fun hge => ?_⟩
  · have hlt := of_decide_eq_true hlt
    have hkl : k < ys.length := by omega
    have hx : ys[k]? = some ys[k] := List.getElem?_eq_getElem hkl
    have hdr : ys.drop k = ys[k] :: ys.drop (k + 1) := List.drop_eq_getElem_cons hkl
    generalize ys[k] = x at hx hdr
    have htl : ((ys.take k).map (cutF 3000)).length = k := by rw [List.length_map, List.length_take]; omega
    have hxk : ((ys.take k).map (cutF 3000) ++ ys.drop k)[k]? = some x := by rw [List.getElem?_append_right (by omega), htl, Nat.sub_self, hdr]; rfl
    obtain ⟨ad, had, hrd⟩ := (ho.reads fun _ => rfl) k x hxk
    have hrd1 := hrd 1 (.string x.data) rfl
    refine ⟨⟨by omega, by omega⟩, ad, had, x.data, by rw [Int.toNat_natCast]; exact hrd1, (fewS_spec x.data 3000 w7).mono ?_⟩
    rintro e w11 ⟨rfl, hw⟩
    replace hw := hw.symm
    subst hw
    obtain ⟨ad', had', hwr, ho', hf'⟩ := OwnK.setField (enc := encF) (k := 2) (fun _ => rfl) ho (i := k) (j := 1) (x := x) (y := cutF 3000 x) (v := .string (fewB x.data 3000)) hxk (show 1 < 2 by decide) rfl
    rw [had] at had'; cases had'
    refine ⟨_, rfl, ⟨by omega, by omega⟩, ad, had, by rw [Int.toNat_natCast]; exact hwr, fun w14 h14 => ?_⟩
    rw [Int.toNat_natCast] at h14
    change w14 = w7.setCell _ (.string (fewB x.data 3000)) at h14
    subst h14
    refine ⟨⟨k + 1, rfl, by omega, ?_, hf.trans hf' fun q hq ⟨y, hy, e⟩ => by have := (ho.blk hy).1; omega⟩, by dsimp only; omega⟩
    have hset : ((ys.take k).map (cutF 3000) ++ ys.drop k).set k (cutF 3000 x) = (ys.take (k + 1)).map (cutF 3000) ++ ys.drop (k + 1) := by
      rw [List.set_append_right _ _ (by omega), htl, Nat.sub_self, hdr, List.set_cons_zero, List.take_add_one, hx, List.map_append, List.append_assoc]
      rfl
    rw [← hset]; exact ho'
  · have hge := of_decide_eq_false hge
    have hk' : k = ys.length := by omega
    rw [hk', List.take_length, List.drop_length, List.append_nil] at ho
    exact ⟨l, rfl, ho, hf⟩
end Go.Proofs.YtmhlmdnhpfhoeaaGreatDoor
