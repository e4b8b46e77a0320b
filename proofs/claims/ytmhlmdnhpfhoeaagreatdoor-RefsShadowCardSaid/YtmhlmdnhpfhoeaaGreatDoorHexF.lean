/- Find and Few; append of what is new. Conditions: as named. -/
import Derived.Test.YtmhlmdnhpfhoeaaGreatDoorVcStr
import Derived.Test.YtmhlmdnhpfhoeaaGreatDoorVcSls
import Derived.Test.YtmhlmdnhpfhoeaaGreatDoorFind1
set_option linter.unusedVariables false
namespace Vc
open Go
theorem append_new {P : Program} {t e : TypeId} {z : Value} {bytes : Nat} {w : World} {base : Nat} {l : Sl} {xs : List Value} (el : El P t e z bytes) (h : Own w base e l xs) {news : List Value} (h1 : ∀ u ∈ news, u.oneCell' = true)
    (hm : xs.length + news.length ≤ maxLen) (hb : (xs.length + news.length) * bytes ≤ 140737488355328) (hbase : base ≤ w.heap.size) {w2 : World} (hw2 : w2 = w.alloc (.cells news.toArray e)) {m : Nat} (hlen : news.length = m) :
    ∃ w' l', (Builtin.append_ #[t, t] t #[.slice l.a l.len l.cap, .slice (some ⟨w.heap.size, 0, none⟩) m m]).run P w2 = .ok (.slice l'.a l'.len l'.cap) w' ∧ Own w' base e l' (xs ++ news) ∧
      Fr (At l) w w' ∧ Since w l l' := by
  subst hw2
  have h2 : Own (w.alloc (.cells news.toArray e)) base e l xs := h.keep (.alloc (fun _ => False) _ _) (by simp)
  obtain ⟨w', l', hr, ho, hf, hs⟩ := append_all' el h2 (src := some ⟨w.heap.size, 0, none⟩) m (news := news) (fun i v hv => ⟨_, rfl, by rw [add_lit, Nat.zero_add, cell_blk (alloc_new w _)]; simpa using hv⟩) h1 hm hb (by simp; omega) hlen
  refine ⟨w', l', hr, ho, (Fr.alloc _ _ _).trans' hf, fun y hy => ?_⟩
  rcases hs y hy with hx | hn
  · exact .inl hx
  · simp only [World.alloc, Array.size_push] at hn
    exact .inr (by omega)
end Vc
namespace Go.Proofs.YtmhlmdnhpfhoeaaGreatDoor
open Go Vc Go.Proofs

theorem elByteH : El Tryz.prog T_S_uint8 T_uint8 (.int .u8 0) 1 := ⟨by kernel_rfl, by kernel_rfl, rfl⟩
/-- The reference's 'Find'. -/
theorem find_spec (s : ByteArray) (hs : s.size ≤ 140737488355328) (c : Nat) (hc : c < 256) (w : World) : Calls Tryz.prog F_cartularyref08_Find #[.string s, .int .u8 (c : Int)] w fun e w' => e = .returned (.int .i64 (Lib.indexByte s.data.toList (UInt8.ofNat c))) ∧ w' = w := by
  refine vc_cartularyref08_Find_ok (R := fun v w' => v = .int .i64 (Lib.indexByte s.data.toList (UInt8.ofNat c)) ∧ w' = w) ?_ (fun v w' h => ⟨by rw [h.1], h.2⟩)
  refine ⟨fun n w' => w' = w ∧ ∃ k : Nat, n = k ∧ k ≤ s.size ∧ ∀ j, j < k → byt s j ≠ (UInt8.ofNat c).toNat, fun n _ => s.size - n.toNat, ⟨rfl, 0, rfl, Nat.zero_le _, fun j hj => by omega⟩, ?_⟩
  rintro n w4 ⟨hw, k, rfl, hk, hall⟩
  replace hw := hw.symm
  subst hw
  have e1 : IntKind.i64.wrap ((k : Int) + 1) = ((k + 1 : Nat) : Int) := by rw [wrap_i64 (by omega) (by omega)]; omega
  rw [e1]
  refine ⟨fun hlt => ?_, fun hge => ?_⟩
  · have hlt := of_decide_eq_true hlt
    rw [byteAt_nat]
    refine ⟨⟨by omega, by omega⟩, fun he => ⟨?_, rfl⟩, fun hne => ⟨⟨rfl, k + 1, rfl, by omega, fun j hj => ?_⟩, by dsimp only; omega⟩⟩
    · have he := eq_of_beq he
      rw [fnd_at (i := k) (by omega) (by rw [toNat_of c hc]; omega) hall]
    · by_cases hjk : j = k
      · subst hjk
        rw [toNat_of c hc]
        intro e; rw [e] at hne; simp at hne
      · exact hall j (by omega)
  · have hge := of_decide_eq_false hge
    have : k = s.size := by omega
    subst this
    exact ⟨by rw [fnd_no hall], rfl⟩
theorem fewS_spec (s : ByteArray) (n : Nat) (w : World) : Calls Tryz.prog F_cartularylaw01_Few #[.string s, .int .i64 n] w fun e w' => e = .returned (.string (if s.size > n then s.extract 0 n else s)) ∧ w' = w := by
  refine vc_cartularylaw01_Few_ok (R := fun v w' => v = .string (if s.size > n then s.extract 0 n else s) ∧ w' = w) ?_ (fun v w' h => ⟨by rw [h.1], h.2⟩)
  refine ⟨fun h => ?_, fun h => ?_⟩
  · have h := of_decide_eq_true h
    rw [if_pos (by omega)]
    exact ⟨⟨by omega, by omega⟩, by simp, rfl⟩
  · have h := of_decide_eq_false h
    rw [if_neg (by omega)]
    exact ⟨rfl, rfl⟩
theorem fewS_len (s : ByteArray) (n : Nat) : (if s.size > n then s.extract 0 n else s).size ≤ n := by
  split
  · simp; omega
  · omega
end Go.Proofs.YtmhlmdnhpfhoeaaGreatDoor
