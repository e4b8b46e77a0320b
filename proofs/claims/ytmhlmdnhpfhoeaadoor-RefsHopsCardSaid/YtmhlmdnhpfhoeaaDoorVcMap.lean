/- Maps from texts: what is looked up and what an assignment leaves. Conditions: the map's key is a text. -/
import Derived.Test.YtmhlmdnhpfhoeaaDoorVcSl
import Derived.MapKept
set_option linter.unusedVariables false
namespace Vc
open Go

/-- What stands under a key. -/
def mlook : List (ByteArray × Value) → ByteArray → Option Value
  | [], _ => none
  | (a, v) :: r, k => if a = k then some v else mlook r k
/-- The same entries with this one. -/
def mupd : List (ByteArray × Value) → ByteArray → Value → List (ByteArray × Value)
  | [], k, v => [(k, v)]
  | (a, x) :: r, k, v => if a = k then (k, v) :: r else (a, x) :: mupd r k v
abbrev entKV (e : MapEntry) : Value × Value := (e.key, e.val)
abbrev strKV (x : ByteArray × Value) : Value × Value := (.string x.1, x.2)
/-- A map with these entries. -/
def MapOf (w : World) (r : Nat) (l : List (ByteArray × Value)) : Prop := ∃ es clock, w.heap[r]? = some (.map es clock) ∧ MapKept.Stamped es clock ∧ es.toList.map entKV = l.map strKV
theorem MapOf.keep {w w2 : World} {r : Nat} {l : List (ByteArray × Value)} (h : MapOf w r l) {X : Nat → Prop} (hf : Fr X w w2) (hx : ¬ X r) : MapOf w2 r l := by
  obtain ⟨es, c, h1, h2, h3⟩ := h
  exact ⟨es, c, hf.keep h1 hx, h2, h3⟩
theorem MapOf.lt {w : World} {r : Nat} {l : List (ByteArray × Value)} (h : MapOf w r l) : r < w.heap.size := by
  obtain ⟨es, c, h1, _⟩ := h
  exact lt_blk h1
theorem MapOf.new {w : World} : MapOf (w.alloc (.map #[] 0)) w.heap.size [] := ⟨#[], 0, alloc_new _ _, MapKept.stamped_empty 0, rfl⟩
theorem findNow_look (k : ByteArray) : ∀ (es : List MapEntry) (l : List (ByteArray × Value)) (i : Nat), es.map entKV = l.map strKV →
    (Instr.findNow .string (.string k) es i = some none ∧ mlook l k = none ∧ (∀ v, mupd l k v = l ++ [(k, v)]) ∧ ∀ x ∈ es, x.key ≠ .string k) ∨
    ∃ j e, Instr.findNow .string (.string k) es i = some (some (i + j, e.val)) ∧ es[j]? = some e ∧ e.key = .string k ∧ mlook l k = some e.val ∧
      ∀ v, (mupd l k v).map strKV = (es.map entKV).set j (.string k, v)
  | [], [], _, _ => .inl ⟨rfl, rfl, fun _ => rfl, by simp⟩
  | [], _ :: _, _, h => by cases h
  | _ :: _, [], _, h => by cases h
  | e :: es, (a, x) :: l, i, h => by
    simp only [List.map_cons, List.cons.injEq, Prod.mk.injEq] at h
    obtain ⟨⟨hk, hv⟩, ht⟩ := h
    by_cases hak : a = k
    · subst hak
      refine .inr ⟨0, e, ?_, rfl, hk, by rw [mlook, if_pos rfl, hv], fun v => ?_⟩
      · have : (a == a) = true := (MapKept.bytes_beq a a).2 rfl
        simp [Instr.findNow, Instr.sameNow, hk, this]
      · rw [mupd, if_pos rfl]; simp [ht]
    · have hne : (k == a) = false := by
        rw [Bool.eq_false_iff]; intro hh; exact hak ((MapKept.bytes_beq k a).1 hh).symm
      have hstep : Instr.findNow .string (.string k) (e :: es) i = Instr.findNow .string (.string k) es (i + 1) := by
        simp [Instr.findNow, Instr.sameNow, hk, hne]
      rcases findNow_look k es l (i + 1) ht with ⟨h1, h2, h3, h4⟩ | ⟨j, e', h1, h2, h3, h4, h5⟩
      · refine .inl ⟨by rw [hstep, h1], by rw [mlook, if_neg hak, h2], fun v => by rw [mupd, if_neg hak, h3]; rfl, fun y hy => ?_⟩
        cases hy with
        | head => rw [hk]; intro hh; exact hak (Value.string.inj hh)
        | tail _ hy => exact h4 y hy
      · refine .inr ⟨j + 1, e', by rw [hstep, h1, show i + 1 + j = i + (j + 1) by omega], by simpa using h2, h3, by rw [mlook, if_neg hak, h4], fun v => ?_⟩
        rw [mupd, if_neg hak, List.map_cons, h5]
        simp [hk, hv]
section
variable {P : Program} {w : World} {mt kt et : TypeId} {r : Nat} {l : List (ByteArray × Value)}
/-- What is under a key, and whether there is one. -/
theorem map_lookup (hm : P.underlying mt = some (.map kt et)) (hd : P.underlying kt = some .string) {z : Value} (hz : (zeroValue et).run P w = .ok z w) (h : MapOf w r l) (k : ByteArray) (c : Bool) :
    (Instr.lookup mt (.map (some r)) (.string k) c).run P w = .ok (match mlook l k with | some v => (if c then .tuple #[v, .bool true] else v) | none => (if c then .tuple #[z, .bool false] else z)) w := by
  obtain ⟨es, clock, hb, hs, hl⟩ := h
  have hk : MapKept.IsKey .string (.string k) := by simp [MapKept.IsKey]
  rcases findNow_look k es.toList l 0 hl with ⟨h1, h2, _, _⟩ | ⟨j, e, h1, _, _, h4, _⟩
  · rw [h2]
    simp [Instr.lookup, run_underlying hm, MapKept.run_getObj_map hb, MapKept.run_checkKey hd hk, MapKept.run_findKey hd h1, hz, Result.andThen]
  · rw [h4]
    simp [Instr.lookup, run_underlying hm, MapKept.run_getObj_map hb, MapKept.run_checkKey hd hk, MapKept.run_findKey hd h1, Result.andThen]
/-- An assignment. -/
theorem map_update (hm : P.underlying mt = some (.map kt et)) (hd : P.underlying kt = some .string) (h : MapOf w r l) (k : ByteArray) (v : Value) :
    ∃ w', (Instr.mapUpdate mt (.map (some r)) (.string k) v).run P w = .ok () w' ∧ MapOf w' r (mupd l k v) ∧ Fr (· = r) w w' := by
  obtain ⟨es, clock, hb, hs, hl⟩ := h
  have hk : MapKept.IsKey .string (.string k) := by simp [MapKept.IsKey]
  have hfr : ∀ o : Obj, Fr (· = r) w { w with heap := w.heap.setIfInBounds r o } := fun o => ⟨rfl, rfl, rfl, by simp, fun q hq hx => (MapKept.heap_set hb).2 q hx⟩
  rcases findNow_look k es.toList l 0 hl with ⟨h1, h2, h3, h4⟩ | ⟨j, e, h1, h2, h3, h4, h5⟩
  · refine ⟨_, by simp [Instr.mapUpdate, run_underlying hm, MapKept.run_getObj_map hb, MapKept.run_checkKey hd hk, MapKept.run_findKey hd h1, MapKept.run_setObj_map _ hb, Result.andThen]; rfl, ⟨_, _, (MapKept.heap_set hb).1, MapKept.stamped_push hs h4, ?_⟩, hfr _⟩
    rw [h3, Array.toList_push, List.map_append, List.map_append, hl]
    rfl
  · have hj : es[j]? = some e := by simpa using h2
    refine ⟨{ w with heap := w.heap.setIfInBounds r (.map (es.modify j fun e => { key := .string k, val := v, born := e.born }) clock) }, by simp [Instr.mapUpdate, run_underlying hm, MapKept.run_getObj_map hb, MapKept.run_checkKey hd hk, MapKept.run_findKey hd h1, hj, h3, MapKept.run_keyThatStays hk, MapKept.run_setObj_map _ hb, Result.andThen], ⟨_, _, (MapKept.heap_set hb).1, MapKept.stamped_modify hs _ _ (fun _ _ => rfl) (fun e' _ he' => by rw [hj] at he'; cases he'; exact h3.symm), ?_⟩, hfr _⟩
    rw [h5]
    refine List.ext_getElem? fun q => ?_
    rw [List.getElem?_set]
    simp only [List.getElem?_map, Array.getElem?_toList, Array.getElem?_modify, List.length_map, Array.length_toList]
    by_cases hq : j = q
    · subst hq
      rw [if_pos rfl, if_pos rfl, if_pos (Array.getElem?_eq_some_iff.1 hj).1, hj]; rfl
    · rw [if_neg hq, if_neg hq]
end
/-- What holds of all entries holds of them and the new one. -/
theorem mupd_all {p : ByteArray × Value → Prop} {k : ByteArray} {v : Value} (hv : p (k, v)) : ∀ l : List (ByteArray × Value), (∀ x ∈ l, p x) → ∀ x ∈ mupd l k v, p x
  | [], _, x, hx => by simp only [mupd, List.mem_singleton] at hx; rw [hx]; exact hv
  | (a, y) :: r, h, x, hx => by
    rw [mupd] at hx
    split at hx
    · rcases List.mem_cons.1 hx with rfl | hx
      · exact hv
      · exact h x (.tail _ hx)
    · rcases List.mem_cons.1 hx with rfl | hx
      · exact h _ (.head _)
      · exact mupd_all hv r (fun z hz => h z (.tail _ hz)) x hx
theorem mlook_mem {k : ByteArray} {v : Value} : ∀ {l : List (ByteArray × Value)}, mlook l k = some v → (k, v) ∈ l
  | (a, y) :: r, h => by
    rw [mlook] at h
    split at h
    · rename_i he; cases h; rw [he]; exact .head _
    · exact .tail _ (mlook_mem h)
end Vc
