/- Texts of this seat in one: made by a program of ours. -/
import Derived.Test.YtopjkjiobdigaaaGreatDoorCartularyFoldersQ0
import Derived.Test.YtopjkjiobdigaaaGreatDoorCartularyFoldersQ1
import Derived.Test.YtopjkjiobdigaaaGreatDoorCartularyFoldersQ5
import Derived.Test.YtopjkjiobdigaaaGreatDoorProg
import Derived.Shelf.SlSortCmp.NoneTotal
import Derived.Deep.Slices
import Derived.Deep.Fields
import Derived.ChangeSame
import Derived.SizedLaws
import Derived.Test.YtopjkjiobdigaaaGreatDoorRows
import Derived.Lib.LaidU8
import Derived.ProofKit
import Derived.OpenShut
import Derived.LaidMore
import Derived.Lay
import Derived.Test.YtopjkjiobdigaaaGreatDoorCards
import Derived.Test.YtopjkjiobdigaaaGreatDoorTie
import Derived.WalkKit
import Derived.ShutString
import Derived.ChangeOld
import Derived.Below
import Derived.SevenTiedAt
import Derived.LaidOnce
/- The plain laws of folders: what is parsed says the bytes, what has the bytes is parsed, order, lengths. No condition. -/
set_option linter.unusedVariables false
namespace Go.Proofs.YtopjkjiobdigaaaGreatDoor
open Go Vc HexM TreeM Go.Proofs

theorem modeText_textMode {s : ByteArray} (h : textMode s ≠ 0) : modeText (textMode s) = s := by
  unfold textMode at h ⊢
  split
  · rename_i e; rw [e]; rfl
  · split
    · rename_i e; rw [e]; rfl
    · split
      · rename_i e; rw [e]; rfl
      · split
        · rename_i e; rw [e]; rfl
        · split
          · rename_i e; rw [e]; rfl
          · rename_i h1 h2 h3 h4 h5
            rw [if_neg h1, if_neg h2, if_neg h3, if_neg h4, if_neg h5] at h; exact absurd rfl h
theorem textMode_modeText {m : Int} (h : modeText m ≠ ⟨#[]⟩) : textMode (modeText m) = m ∧ m ≠ 0 := by
  unfold modeText at h ⊢
  split
  · rename_i e; rw [e]; decide +kernel
  · split
    · rename_i e; rw [e]; decide +kernel
    · split
      · rename_i e; rw [e]; decide +kernel
      · split
        · rename_i e; rw [e]; decide +kernel
        · split
          · rename_i e; rw [e]; decide +kernel
          · rename_i h1 h2 h3 h4 h5
            rw [if_neg h1, if_neg h2, if_neg h3, if_neg h4, if_neg h5] at h; exact absurd rfl h
theorem modeText_plain (m : Int) : ∀ c ∈ (modeText m).data.toList, c ≠ 0 ∧ c ≠ 32 := by
  unfold modeText
  repeat' split
  all_goals (intro c hc; revert c; decide +kernel)
/-- A text cut at a byte that it has says its parts. -/
theorem cut_join {s : ByteArray} {c : UInt8} (h : (cutS s c).2.2 = true) : s.data.toList = (cutS s c).1.data.toList ++ c :: (cutS s c).2.1.data.toList := by
  unfold cutS at h ⊢
  rcases fnd_cases s c with ⟨h1, _⟩ | ⟨i, h1, hi, hb, _⟩
  · rw [h1, if_pos rfl] at h; cases h
  · rw [h1, if_neg (by omega), Int.toNat_natCast]
    simp only
    rw [bs_head, bs_tail]
    have hlt : i < s.data.toList.length := by rw [bs_len]; exact hi
    have hc : s.data.toList[i] = c := by
      have := bs_byt hi
      rw [hb] at this
      exact (UInt8.toNat_inj.1 this).symm
    rw [← hc, ← List.drop_eq_getElem_cons hlt, List.take_append_drop]
theorem cut_of {s : ByteArray} {c : UInt8} {a b : List UInt8} (h : s.data.toList = a ++ c :: b) (hn : c ∉ a) : cutS s c = (⟨a.toArray⟩, ⟨b.toArray⟩, true) := by
  have hsz : s.size = a.length + b.length + 1 := by rw [← bs_len, h]; simp; omega
  have hat : Lib.indexByte s.data.toList c = (a.length : Int) := by
    refine fnd_at (by omega) ?_ fun k hk he => hn ?_
    · have := bs_get (s := s) (i := a.length) (by omega)
      rw [h, List.getElem?_append_right (Nat.le_refl _), Nat.sub_self, List.getElem?_cons_zero] at this
      have := Option.some.inj this
      have h2 := congrArg UInt8.toNat this
      rw [toNat_of _ (byt_lt _ _)] at h2
      exact h2.symm
    · have := bs_get (s := s) (i := k) (by omega)
      rw [h, List.getElem?_append_left hk, he, UInt8.ofNat_toNat] at this
      exact List.mem_of_getElem? this
  unfold cutS
  rw [hat, if_neg (by omega), Int.toNat_natCast]
  have e1 : s.extract 0 a.length = ⟨a.toArray⟩ := bs_ext (by rw [bs_head, h, bs_mk, List.take_left])
  have e2 : s.extract (a.length + 1) s.size = ⟨b.toArray⟩ := bs_ext (by rw [bs_tail, h, bs_mk, ← List.drop_drop, List.drop_left]; rfl)
  rw [e1, e2]
theorem parse_len : ∀ (f : Nat) (s : ByteArray) (acc : List Ent), acc.length ≤ 500 → (parseE f s acc).1.length ≤ 500
  | 0, _, _, _ => by simp [parseE]
  | f + 1, s, acc, h => by
    rw [parseE]
    repeat' split
    all_goals first | exact h | exact Nat.zero_le _ | exact parse_len f _ _ (by rw [List.length_append, List.length_singleton]; omega)
/-- What is parsed has the bytes. -/
theorem parse_bytes : ∀ (f : Nat) (s : ByteArray) (acc xs : List Ent), parseE f s acc = (xs, 0) → checkE isGit xs = 0 ∧ bytesE xs = bytesE acc ++ s.data.toList
  | 0, s, acc, xs, h => by simp [parseE] at h
  | f + 1, s, acc, xs, h => by
    rw [parseE] at h
    split at h
    · rename_i hs
      split at h
      · rename_i hc
        simp only [Prod.mk.injEq, and_true] at h
        subst h
        exact ⟨hc, by rw [hs]; simp⟩
      · rename_i hc
        simp only [Prod.mk.injEq] at h
        exact absurd h.2 hc
    · split at h
      · simp at h
      · split at h
        · simp at h
        · split at h
          · simp at h
          · split at h
            · simp at h
            · split at h
              · simp at h
              · rename_i h1 h2 h3 h4 h5 h6
                obtain ⟨k1, k2⟩ := parse_bytes f _ _ xs h
                refine ⟨k1, ?_⟩
                rw [k2]
                have j1 := cut_join (s := s) (c := 0) (by simpa using h2)
                have j2 := cut_join (s := (cutS s 0).1) (c := 32) (by simpa using h4)
                generalize cutS s 0 = cu at *
                obtain ⟨hd, rest, ok⟩ := cu
                simp only at *
                generalize cutS hd 32 = cv at *
                obtain ⟨m, name, ok2⟩ := cv
                simp only at *
                unfold bytesE
                rw [List.flatMap_append, List.append_assoc]
                congr 1
                rw [List.flatMap_cons, List.flatMap_nil, List.append_nil]
                unfold entB
                simp only
                rw [modeText_textMode h5, bs_mk, unhex_hex, Option.getD_some, j1, j2, bs_head, bs_tail]
                simp only [List.append_assoc, List.cons_append, List.nil_append, List.take_append_drop]
theorem entOK_parts {x : Ent} (h : entOK isGit x = true) : modeText x.mode ≠ ⟨#[]⟩ ∧ nameOK isGit x.name = true ∧ ∃ l, unhexL x.id.data.toList = some l ∧ l.length = 20 := by
  unfold entOK isId at h
  simp only [Bool.and_eq_true, decide_eq_true_eq, beq_iff_eq] at h
  obtain ⟨⟨h1, h2⟩, h3, h4⟩ := h
  obtain ⟨l, hl⟩ := Option.isSome_iff_exists.1 h3
  have := unhexL_len _ _ hl
  exact ⟨h1, h2, l, hl, by omega⟩
theorem name_plain {s : ByteArray} (h : nameOK isGit s = true) : (0 : UInt8) ∉ s.data.toList := by
  unfold nameOK slashed at h
  simp only [Bool.and_eq_true, Bool.not_eq_true'] at h
  have := h.2
  intro hm
  rw [List.any_eq_false] at this
  exact this 0 hm (by decide)
/-- One entry's bytes are read as it. -/
theorem parse_step {x : Ent} (hx : entOK isGit x = true) (f : Nat) (s : ByteArray) (r : List UInt8) (hs : s.data.toList = entB x ++ r) (acc : List Ent) :
    parseE (f + 1) s acc = if 500 < acc.length + 1 then ([], 2) else parseE f ⟨r.toArray⟩ (acc ++ [x]) := by
  obtain ⟨h1, h2, l, hl, hl20⟩ := entOK_parts hx
  have hm := modeText_plain x.mode
  have hn := name_plain h2
  have hb : s.data.toList = ((modeText x.mode).data.toList ++ 32 :: x.name.data.toList) ++ 0 :: (l ++ r) := by
    rw [hs, entB, hl, Option.getD_some]; simp
  have hc1 := cut_of hb (by
    intro hm0
    rcases List.mem_append.1 hm0 with h | h
    · exact (hm 0 h).1 rfl
    · rcases List.mem_cons.1 h with h | h
      · cases h
      · exact hn h)
  have hc2 := cut_of (s := ⟨((modeText x.mode).data.toList ++ 32 :: x.name.data.toList).toArray⟩) (c := 32) (a := (modeText x.mode).data.toList) (b := x.name.data.toList) (bs_mk _) (fun h => (hm 32 h).2 rfl)
  have hne : s ≠ ⟨#[]⟩ := by rw [Ne, bs_empty, ← bs_len, hb]; simp
  obtain ⟨t1, t2⟩ := textMode_modeText h1
  rw [parseE, if_neg hne, hc1]
  simp only
  rw [if_neg (by decide), bs_mksize, if_neg (by rw [List.length_append]; omega), hc2]
  simp only
  rw [bs_self, bs_self, t1, if_neg (by decide), if_neg t2]
  have e1 : (⟨(l ++ r).toArray⟩ : ByteArray).extract 20 (l ++ r).length = ⟨r.toArray⟩ := by
    refine bs_ext ?_
    rw [← bs_mksize, bs_tail, bs_mk, bs_mk, ← hl20, List.drop_left]
  have e2 : ((⟨(l ++ r).toArray⟩ : ByteArray).extract 0 20).data.toList = l := by rw [bs_head, bs_mk, ← hl20, List.take_left]
  rw [e1, e2, hex_unhex _ _ hl, bs_self]
/-- Entries in form, one behind the other, are read. -/
theorem parse_all : ∀ (ys acc : List Ent) (f : Nat) (s : ByteArray), s.data.toList = bytesE ys → (∀ x ∈ ys, entOK isGit x = true) → acc.length ≤ 500 → ys.length < f →
    parseE f s acc = if 500 < acc.length + ys.length then ([], 2) else if checkE isGit (acc ++ ys) = 0 then (acc ++ ys, 0) else ([], checkE isGit (acc ++ ys))
  | [], acc, f, s, hs, _, hl, hf => by
    obtain ⟨g, rfl⟩ : ∃ g, f = g + 1 := ⟨f - 1, by omega⟩
    have : s = ⟨#[]⟩ := by rw [bs_empty, ← bs_len, hs]; rfl
    rw [parseE, if_pos this, List.append_nil, if_neg (show ¬ 500 < acc.length + ([] : List Ent).length by simp; omega)]
  | x :: ys, acc, f, s, hs, hok, hl, hf => by
    obtain ⟨g, rfl⟩ : ∃ g, f = g + 1 := ⟨f - 1, by omega⟩
    rw [parse_step (hok x (by simp)) g s (bytesE ys) (by rw [hs]; rfl)]
    split
    · rw [if_pos (by simp only [List.length_cons]; omega)]
    · rw [parse_all ys (acc ++ [x]) g ⟨(bytesE ys).toArray⟩ (bs_mk _) (fun y hy => hok y (by simp [hy])) (by simp; omega) (by simp at hf; omega)]
      simp only [List.append_assoc, List.length_append, List.length_cons, List.length_nil, List.singleton_append]
      rw [show acc.length + (0 + 1) + ys.length = acc.length + (ys.length + 1) by omega]
theorem len_bytes (ys : List Ent) (h : ∀ x ∈ ys, entOK isGit x = true) : ys.length ≤ (bytesE ys).length := by
  induction ys with
  | nil => exact Nat.le_refl _
  | cons x r ih =>
    have := ih fun y hy => h y (by simp [hy])
    unfold bytesE at this ⊢
    rw [List.flatMap_cons, List.length_append, List.length_cons]
    have h1 : 1 ≤ (entB x).length := by unfold entB; simp; omega
    omega
/-- Of entries in form the bytes are read back. -/
theorem parse_back {ys : List Ent} (h : checkE isGit ys = 0) (s : ByteArray) (hs : s.data.toList = bytesE ys) : parseE (s.size + 1) s [] = (ys, 0) := by
  obtain ⟨h1, h2⟩ := check_ok h
  have hok := ok_mem h2
  rw [parse_all ys [] _ s hs hok (Nat.zero_le _) (by have := len_bytes ys hok; rw [← bs_len, hs]; omega), if_neg (by simp only [List.length_nil]; omega), List.nil_append, if_pos h]
/-- In form: each entry is, and they rise. -/
theorem good_pair {xs : List Ent} : good isGit xs = true ↔ (∀ x ∈ xs, entOK isGit x = true) ∧ xs.Pairwise fun y x => y.name ≠ x.name ∧ klt y x = true := by
  constructor
  · intro h
    have h := good_iff.1 h
    refine ⟨ok_mem h, ?_⟩
    rw [List.pairwise_iff_getElem]
    intro i j hi hj hij
    have hb := ok_both (git := isGit) (i := j) (fun k hk => h k (by omega)) hj
    have := (okR_iff (List.getElem?_eq_getElem hj)).1 (hb ▸ h j hj)
    exact this.2 i _ hij (List.getElem?_eq_getElem hi)
  · rintro ⟨h1, h2⟩
    rw [List.pairwise_iff_getElem] at h2
    refine good_iff.2 fun i hi => (okAt_iff (List.getElem?_eq_getElem hi)).2 ⟨h1 _ (List.getElem_mem hi), fun j y hj hy => ?_, fun y h0 hy => ?_⟩
    · have hjl : j < xs.length := by omega
      rw [List.getElem?_eq_getElem hjl] at hy
      cases hy
      exact (h2 j i hjl hi hj).1
    · have hjl : i - 1 < xs.length := by omega
      rw [List.getElem?_eq_getElem hjl] at hy
      cases hy
      exact (h2 (i - 1) i hjl hi (by omega)).2
theorem check_iff {xs : List Ent} : checkE isGit xs = 0 ↔ xs.length ≤ 500 ∧ good isGit xs = true := by
  unfold checkE
  constructor
  · intro h
    split at h
    · cases h
    · split at h
      · rename_i h1 h2; exact ⟨by omega, h2⟩
      · cases h
  · rintro ⟨h1, h2⟩
    rw [if_neg (by omega), if_pos h2]
theorem klt_irrefl (x : Ent) : klt x x = false := by
  unfold klt
  rw [Proofs.bytesLess_eq, decide_eq_false_iff_not]
  exact List.lt_irrefl _
/-- Two that change places are out of order. -/
theorem check_swap {xs : List Ent} (h : checkE isGit xs = 0) {i j : Nat} (hij : i < j) (hj : j < xs.length) (x y : Ent) (hx : xs[i]? = some x) (hy : xs[j]? = some y) : checkE isGit ((xs.set i y).set j x) = 4 := by
  obtain ⟨h1, h2⟩ := check_iff.1 h
  have hp := (good_pair.1 h2).2
  rw [List.pairwise_iff_getElem] at hp
  have hxy := (hp i j (by omega) hj hij).2
  rw [List.getElem?_eq_getElem (by omega)] at hx hy
  cases hx; cases hy
  unfold checkE
  rw [if_neg (by simp only [List.length_set]; omega), if_neg]
  intro hg
  have hq := (good_pair.1 hg).2
  rw [List.pairwise_iff_getElem] at hq
  have h3 := (hq i j (by simp only [List.length_set]; omega) (by simp only [List.length_set]; omega) hij).2
  rw [List.getElem_set_ne (by omega), List.getElem_set_self, List.getElem_set_self] at h3
  have := klt_trans hxy h3
  rw [klt_irrefl] at this; cases this
/-- Without one they are in form. -/
theorem check_less {xs : List Ent} (h : checkE isGit xs = 0) (i : Nat) : checkE isGit (xs.take i ++ xs.drop (i + 1)) = 0 := by
  obtain ⟨h1, h2⟩ := check_iff.1 h
  obtain ⟨h3, h4⟩ := good_pair.1 h2
  have hsub : (xs.take i ++ xs.drop (i + 1)).Sublist xs := by
    have : (xs.take i ++ xs.drop (i + 1)).Sublist (xs.take i ++ xs.drop i) := by
      refine List.Sublist.append (List.Sublist.refl _) ?_
      rw [← List.drop_drop]
      exact List.drop_sublist 1 _
    rwa [List.take_append_drop] at this
  exact check_iff.2 ⟨Nat.le_trans hsub.length_le h1, good_pair.2 ⟨fun x hx => h3 x (hsub.subset hx), h4.sublist hsub⟩⟩
theorem entB_size {x : Ent} (h : entOK isGit x = true) : ((entB x).length : Int) = 6 + x.name.size + 22 - (if x.mode = 16384 then 1 else 0) ∧ x.name.size ≤ 100 := by
  obtain ⟨h1, h2, l, hl, hl20⟩ := entOK_parts h
  have hsz : x.name.size ≤ 100 := by
    unfold nameOK at h2
    simp only [Bool.and_eq_true, decide_eq_true_eq] at h2
    exact h2.1.1.1.1.2
  refine ⟨?_, hsz⟩
  have hm : (modeText x.mode).size = if x.mode = 16384 then 5 else 6 := by
    unfold modeText at h1 ⊢
    split
    · rfl
    · split
      · rfl
      · split
        · rfl
        · split
          · rfl
          · split
            · rfl
            · rename_i g1 g2 g3 g4 g5
              rw [if_neg g1, if_neg g2, if_neg g3, if_neg g4, if_neg g5] at h1; exact absurd rfl h1
  unfold entB
  rw [hl, Option.getD_some]
  simp only [List.length_append, bs_len, List.length_cons, List.length_nil, hm, hl20]
  split <;> omega
end Go.Proofs.YtopjkjiobdigaaaGreatDoor

/- Formulas of 1 Go functions of this seat (written by a program of the author's, vcgen.py), and that each is enough for the call. No condition. -/
set_option linter.unusedVariables false
namespace Go.Proofs.YtopjkjiobdigaaaGreatDoor
open Go Vc Go.Proofs
set_option maxRecDepth 100000
/-- cartularytop.CartularyFolders -/
def vc_cartularytop_CartularyFolders (x0a : Option Addr) (x0n : Nat) (x0c : Nat) (w : World) (R : Value → World → Prop) : Prop :=
  Calls Tryz.prog (4 : Nat) (Array.mk [Value.slice x0a x0n x0c]) (w) (fun e1 w2 =>
    ∃ l3 : Sl, (e1 = Ending.returned (Value.slice l3.1 l3.2 l3.3) ∧
     Calls Tryz.prog (5 : Nat) (Array.mk [Value.slice l3.1 l3.2 l3.3]) (w2) (fun e4 w5 =>
       ∃ s6 : ByteArray, ∃ n7 : Int, (e4 = Ending.returned (Value.tuple (Array.mk [Value.string s6, Value.int IntKind.i64 n7])) ∧
        ((((n7 != 0) = true →
           Calls Tryz.prog (6 : Nat) (Array.mk [Value.slice l3.1 l3.2 l3.3]) (w5) (fun e8 w9 =>
             ∃ n10 : Int, (e8 = Ending.returned (Value.int IntKind.i64 n10) ∧
              R (Value.bool (n10 != 0)) w9)))) ∧
         ((n7 != 0) = false →
           ∀ w11 : World,
           (w11 = World.alloc w5 (Obj.cells (Array.mk [Value.int IntKind.i64 0, Value.string (ByteArray.mk (Array.mk []))]) 29) →
             ∃ w12 : World, (Sem.run Tryz.prog (storeVar 29 (Addr.mk (Array.size (World.heap w5)) 0 none) (Value.agg (Array.mk [Value.int IntKind.i64 2, Value.string s6]))) w11 = Result.ok PUnit.unit w12 ∧
              ∃ n13 : Int, ∃ s14 : ByteArray, (Sem.run Tryz.prog (loadVar 29 (Addr.mk (Array.size (World.heap w5)) 0 none)) w12 = Result.ok (Value.agg (Array.mk [Value.int IntKind.i64 n13, Value.string s14])) w12 ∧
               Calls Tryz.prog (7 : Nat) (Array.mk [Value.agg (Array.mk [Value.int IntKind.i64 n13, Value.string s14])]) (w12) (fun e15 w16 =>
                 ∃ s17 : ByteArray, ∃ s18 : ByteArray, ∃ n19 : Int, (e15 = Ending.returned (Value.tuple (Array.mk [Value.agg (Array.mk [Value.string s17, Value.string s18]), Value.int IntKind.i64 n19])) ∧
                  ∀ w20 : World,
                  (w20 = World.alloc w16 (Obj.cells (Array.mk [Value.string (ByteArray.mk (Array.mk [])), Value.string (ByteArray.mk (Array.mk []))]) 31) →
                    ∃ w21 : World, (Sem.run Tryz.prog (storeVar 31 (Addr.mk (Array.size (World.heap w16)) 0 none) (Value.agg (Array.mk [Value.string s17, Value.string s18]))) w20 = Result.ok PUnit.unit w21 ∧
                     ((((n19 == 2) = true →
                        R (Value.bool (decide ((↑(ByteArray.size s6) : Int) > 65000))) w21)) ∧
                      ((n19 == 2) = false →
                        ∃ s22 : ByteArray, ∃ s23 : ByteArray, (Sem.run Tryz.prog (loadVar 31 (Addr.mk (Array.size (World.heap w16)) 0 none)) w21 = Result.ok (Value.agg (Array.mk [Value.string s22, Value.string s23])) w21 ∧
                         ∀ w24 : World,
                         (w24 = World.alloc w21 (Obj.cells (Array.mk [Value.string s22, Value.string s23]) 31) →
                           Calls Tryz.prog (8 : Nat) (Array.mk [Value.slice (some (Addr.mk (Array.size (World.heap w21)) 0 none)) 1 1]) (w24) (fun e25 w26 =>
                             ∃ p27 : Option Addr, ∃ n28 : Int, (e25 = Ending.returned (Value.tuple (Array.mk [Value.pointer p27, Value.int IntKind.i64 n28])) ∧
                              ((((n19 != 0) = true →
                                 R (Value.bool false) w26)) ∧
                               ((n19 != 0) = false →
                                 ((((n28 != 0) = true →
                                    R (Value.bool false) w26)) ∧
                                  ((n28 != 0) = false →
                                    (((Option.isNone p27 = true →
                                       R (Value.bool false) w26)) ∧
                                     (Option.isNone p27 = false →
                                       Calls Tryz.prog (9 : Nat) (Array.mk [Value.pointer p27]) (w26) (fun e29 w30 =>
                                         ∃ p31 : Option Addr, ∃ n32 : Int, (e29 = Ending.returned (Value.tuple (Array.mk [Value.pointer p31, Value.int IntKind.i64 n32])) ∧
                                          ((((n32 != 0) = true →
                                             R (Value.bool false) w30)) ∧
                                           ((n32 != 0) = false →
                                             (((Option.isNone p31 = true →
                                                R (Value.bool false) w30)) ∧
                                              (Option.isNone p31 = false →
                                                ∃ n33 : Int, ∃ s34 : ByteArray, (Sem.run Tryz.prog (loadVar 29 (Addr.mk (Array.size (World.heap w5)) 0 none)) w30 = Result.ok (Value.agg (Array.mk [Value.int IntKind.i64 n33, Value.string s34])) w30 ∧
                                                 Calls Tryz.prog (10 : Nat) (Array.mk [Value.agg (Array.mk [Value.int IntKind.i64 n33, Value.string s34])]) (w30) (fun e35 w36 =>
                                                   ∃ s37 : ByteArray, ∃ n38 : Int, (e35 = Ending.returned (Value.tuple (Array.mk [Value.string s37, Value.int IntKind.i64 n38])) ∧
                                                    Calls Tryz.prog (11 : Nat) (Array.mk [Value.pointer p31, Value.string s37, Value.int IntKind.i64 2]) (w36) (fun e39 w40 =>
                                                      ∃ s41 : ByteArray, ∃ n42 : Int, (e39 = Ending.returned (Value.tuple (Array.mk [Value.string s41, Value.int IntKind.i64 n42])) ∧
                                                       Calls Tryz.prog (11 : Nat) (Array.mk [Value.pointer p31, Value.string s37, Value.int IntKind.i64 3]) (w40) (fun e43 w44 =>
                                                         ∃ s45 : ByteArray, ∃ n46 : Int, (e43 = Ending.returned (Value.tuple (Array.mk [Value.string s45, Value.int IntKind.i64 n46])) ∧
                                                          Calls Tryz.prog (12 : Nat) (Array.mk [Value.string s41]) (w44) (fun e47 w48 =>
                                                            ∃ l49 : Sl, ∃ n50 : Int, (e47 = Ending.returned (Value.tuple (Array.mk [Value.slice l49.1 l49.2 l49.3, Value.int IntKind.i64 n50])) ∧
                                                             ((((n42 != 0) = true →
                                                                R (Value.bool false) w48)) ∧
                                                              ((n42 != 0) = false →
                                                                ((((n46 != 10) = true →
                                                                   R (Value.bool false) w48)) ∧
                                                                 ((n46 != 10) = false →
                                                                   ((((n50 != 0) = true →
                                                                      R (Value.bool false) w48)) ∧
                                                                    ((n50 != 0) = false →
                                                                      Calls Tryz.prog (13 : Nat) (Array.mk [Value.slice l49.1 l49.2 l49.3, Value.slice l3.1 l3.2 l3.3]) (w48) (fun e51 w52 =>
                                                                        ∃ b53 : Bool, (e51 = Ending.returned (Value.bool b53) ∧
                                                                         ((((!b53) = true →
                                                                            R (Value.bool false) w52)) ∧
                                                                          ((!b53) = false →
                                                                            ∃ I54 : Int → World → Prop, ∃ I55 : Int → World → Nat, (I54 0 w52 ∧
                                                                             ∀ n56 : Int,
                                                                             ∀ w57 : World,
                                                                             (I54 n56 w57 →
                                                                               (((decide (n56 < (↑l3.2 : Int)) = true →
                                                                                  ((0 ≤ n56 ∧
                                                                                    n56 < (↑l3.2 : Int)) ∧
                                                                                   ∃ a58 : Addr, (l3.1 = some a58 ∧
                                                                                    ∃ n59 : Int, ∃ s60 : ByteArray, ∃ s61 : ByteArray, (Sem.run Tryz.prog (loadVar 47 (Addr.add a58 (Int.toNat n56 * 3))) w57 = Result.ok (Value.agg (Array.mk [Value.int IntKind.i64 n59, Value.string s60, Value.string s61])) w57 ∧
                                                                                     ∀ w62 : World,
                                                                                     (w62 = World.alloc w57 (Obj.cells (Array.mk [Value.int IntKind.i64 0, Value.string (ByteArray.mk (Array.mk [])), Value.string (ByteArray.mk (Array.mk []))]) 47) →
                                                                                       ∃ w63 : World, (Sem.run Tryz.prog (storeVar 47 (Addr.mk (Array.size (World.heap w57)) 0 none) (Value.agg (Array.mk [Value.int IntKind.i64 n59, Value.string s60, Value.string s61]))) w62 = Result.ok PUnit.unit w63 ∧
                                                                                        ∃ s64 : ByteArray, (World.cell? w63 (Addr.mk (Array.size (World.heap w57)) 1 none) = some (Value.string s64) ∧
                                                                                         Calls Tryz.prog (14 : Nat) (Array.mk [Value.slice l49.1 l49.2 l49.3, Value.string s64]) (w63) (fun e65 w66 =>
                                                                                           ∃ n67 : Int, ∃ s68 : ByteArray, ∃ s69 : ByteArray, ∃ n70 : Int, (e65 = Ending.returned (Value.tuple (Array.mk [Value.agg (Array.mk [Value.int IntKind.i64 n67, Value.string s68, Value.string s69]), Value.int IntKind.i64 n70])) ∧
                                                                                            ∀ w71 : World,
                                                                                            (w71 = World.alloc w66 (Obj.cells (Array.mk [Value.int IntKind.i64 0, Value.string (ByteArray.mk (Array.mk [])), Value.string (ByteArray.mk (Array.mk []))]) 47) →
                                                                                              ∃ w72 : World, (Sem.run Tryz.prog (storeVar 47 (Addr.mk (Array.size (World.heap w66)) 0 none) (Value.agg (Array.mk [Value.int IntKind.i64 n67, Value.string s68, Value.string s69]))) w71 = Result.ok PUnit.unit w72 ∧
                                                                                               ((((n70 != 0) = true →
                                                                                                  R (Value.bool false) w72)) ∧
                                                                                                ((n70 != 0) = false →
                                                                                                  ∃ n73 : Int, ∃ s74 : ByteArray, ∃ s75 : ByteArray, (Sem.run Tryz.prog (loadVar 47 (Addr.mk (Array.size (World.heap w66)) 0 none)) w72 = Result.ok (Value.agg (Array.mk [Value.int IntKind.i64 n73, Value.string s74, Value.string s75])) w72 ∧
                                                                                                   ∃ n76 : Int, ∃ s77 : ByteArray, ∃ s78 : ByteArray, (Sem.run Tryz.prog (loadVar 47 (Addr.mk (Array.size (World.heap w57)) 0 none)) w72 = Result.ok (Value.agg (Array.mk [Value.int IntKind.i64 n76, Value.string s77, Value.string s78])) w72 ∧
                                                                                                    ((((!(n73 == n76 && (ByteArray.toList s74 == ByteArray.toList s77 && ByteArray.toList s75 == ByteArray.toList s78))) = true →
                                                                                                       R (Value.bool false) w72)) ∧
                                                                                                     ((!(n73 == n76 && (ByteArray.toList s74 == ByteArray.toList s77 && ByteArray.toList s75 == ByteArray.toList s78))) = false →
                                                                                                       (I54 (IntKind.wrap IntKind.i64 (n56 + 1)) w72 ∧
                                                                                                        I55 (IntKind.wrap IntKind.i64 (n56 + 1)) w72 < I55 n56 w57))))))))))))))))))) ∧
                                                                                (decide (n56 < (↑l3.2 : Int)) = false →
                                                                                  R (Value.bool true) w57))))))))))))))))))))))))))))))))))))))))))))))))))))))
theorem vc_cartularytop_CartularyFolders_ok {x0a : Option Addr} {x0n : Nat} {x0c : Nat} {w : World} {R : Value → World → Prop} {R' : Ending → World → Prop} (h : vc_cartularytop_CartularyFolders x0a x0n x0c w R) (hR : ∀ v w', R v w' → R' (.returned v) w') :
    Calls Tryz.prog 3 #[.slice x0a x0n x0c] w R' :=
  calls_of_body (vs := [(.slice x0a x0n x0c, false)]) (ty := ty) (ann := ⟨[], [(22, [(115, .int .i64)])], [], []⟩) (c := Tryz.f3.body.getD .skip) (by kernel_rfl) Tryz.func3 (by kernel_rfl) (by kernel_rfl) (Eq.mp (by kernel_rfl) h) hR
end Go.Proofs.YtopjkjiobdigaaaGreatDoor

/- The law CartularyFolders walked. Conditions: Itoa's table and the table that folds letters are as laid. -/
set_option linter.unusedVariables false
namespace Go.Proofs.YtopjkjiobdigaaaGreatDoor
open Go Vc HexM TreeM ShaM Go.Proofs

theorem ents_own {w : World} {base : Nat} {l : Sl} {ys : List Ent} (ho : OwnK encE 3 w base T_api_Entry l ys) (hn : ∀ x ∈ ys, x.name.size ≤ 140737488355328) (hi : ∀ x ∈ ys, x.id.size ≤ 140737488355328) : Ents w l.a l.len ys := ⟨ho.1, ho.reads elE.len, hn, hi⟩
theorem boxE_load2 {w : World} {g : Nat} {x : Ent} (h : w.heap[g]? = some (.cells (encE x).toArray T_api_Entry (0, 0))) : (loadVar T_api_Entry ⟨g, 0, none⟩).run Tryz.prog w = .ok (.agg #[.int .i64 x.mode, .string x.name, .string x.id]) w :=
  load_agg (vs := encE x) (agg_of (by kernel_rfl)) (by kernel_rfl) fun k v hv => by rw [add_lit, Nat.zero_add, cell_blk h]; simpa using hv
set_option maxHeartbeats 1000000 in
theorem folders_walk {a : Option Addr} {n c : Nat} {W : World} {xs : List Ent} (hE : Ents W a n xs) (hc : n ≤ c) (ht : FoldT W) (h10 : Tab10 W) :
    Calls Tryz.prog F_cartularytop_CartularyFolders #[.slice a n c] W fun e w' => e = .returned (.bool true) ∧ RowKit.Below W.heap.size W w' := by
  refine vc_cartularytop_CartularyFolders_ok (R := fun v w' => v = .bool true ∧ Fr (fun _ => False) W w') ?_ (fun v w' h => ⟨by rw [h.1], (h.2.mono fun _ _ h => h.elim : Fr (fun k => W.heap.size ≤ k) W w').below (Nat.le_refl _)⟩)
  refine (fewE_spec hE hc).mono ?_
  rintro e w2 ⟨l3, rfl, o2, f2⟩
  have hn2 : ∀ x ∈ xs.take 600, x.name.size ≤ 140737488355328 := fun x hx => hE.name x (List.mem_of_mem_take hx)
  have hi2 : ∀ x ∈ xs.take 600, x.id.size ≤ 140737488355328 := fun x hx => hE.id x (List.mem_of_mem_take hx)
  have hl2 : (xs.take 600).length ≤ 600 := by rw [List.length_take]; omega
  generalize xs.take 600 = zs at o2 hn2 hi2 hl2
  have hE2 : ∀ {w' : World}, Fr (fun _ => False) w2 w' → Ents w' l3.a l3.len zs := fun hf => ents_own (o2.keep hf (by simp)) hn2 hi2
  have hl3 : l3.len = zs.length := o2.len
  refine ⟨l3, rfl, (format_spec (hE2 (.refl _ _)) (ht.keep f2 (by simp))).mono ?_⟩
  rintro e w5 ⟨rfl, f5⟩
  have g5 := f2.trans' f5
  refine ⟨_, _, rfl, fun hne => ?_, fun h0 => ?_⟩
  · refine (rcheck_spec (hE2 f5) o2.cap).mono ?_
    rintro e w9 ⟨rfl, f9⟩
    exact ⟨_, rfl, by rw [hne], g5.trans' f9⟩
  have h0 : checkE isGit zs = 0 := by simpa using h0
  rw [if_pos h0]
  obtain ⟨hlen, hok⟩ := check_ok h0
  have hbl := bytesE_len zs (ok_mem hok)
  obtain ⟨s, hs⟩ : ∃ s : ByteArray, ⟨(bytesE zs).toArray⟩ = s := ⟨_, rfl⟩
  have hsl : s.data.toList = bytesE zs := by rw [← hs, bs_mk]
  have hss : s.size ≤ 65000 := by rw [← bs_len, hsl]; omega
  rw [hs]
  clear hs
  have hk2 : isKind 2 := .inr (.inl rfl)
  intro w11 h11
  have f11 : Fr (fun _ => False) w5 w11 := by rw [h11]; exact .alloc _ _ _
  have hO11 : w11.heap[w5.heap.size]? = some (.cells #[.int .i64 0, .string ⟨#[]⟩] T_api_Object (0, 0)) := by rw [h11]; exact alloc_new _ _
  clear h11
  obtain ⟨w12, hr12, hb12, f12⟩ := boxO_store hO11 rfl 2 s
  have f5_12 : Fr (fun _ => False) w5 w12 := f11.trans f12 fun q hq e => by omega
  have g12 := g5.trans' f5_12
  refine ⟨w12, hr12, 2, s, boxO_load hb12, (lwrite_spec 2 hk2 s hss (h10.keep g12)).mono ?_⟩
  rintro e w16 ⟨rfl, hF, f16⟩
  have g16 := g12.trans' f16
  refine ⟨_, _, _, rfl, fun w20 h20 => ?_⟩
  have f20 : Fr (fun _ => False) w16 w20 := by rw [h20]; exact .alloc _ _ _
  have hF20 : w20.heap[w16.heap.size]? = some (.cells #[.string ⟨#[]⟩, .string ⟨#[]⟩] T_api_File (0, 0)) := by rw [h20]; exact alloc_new _ _
  clear h20
  obtain ⟨w21, hr21, hb21, f21⟩ := boxF_store hF20 rfl (pathO (idS 2 s)) (fileO 2 s)
  have f16_21 : Fr (fun _ => False) w16 w21 := f20.trans f21 fun q hq e => by omega
  have g21 := g16.trans' f16_21
  refine ⟨w21, hr21, fun h => (by cases h), fun _ => ⟨_, _, boxF_load hb21, fun w24 h24 => ?_⟩⟩
  have f24 : Fr (fun _ => False) w21 w24 := by rw [h24]; exact .alloc _ _ _
  obtain ⟨y, hy⟩ : ∃ y : FileE, y = ⟨pathO (idS 2 s), fileO 2 s⟩ := ⟨_, rfl⟩
  have hone : ReadsK encF 2 w24 (some ⟨w21.heap.size, 0, none⟩) [y] := fun i z hi => by
    cases i with
    | zero =>
      simp only [List.getElem?_cons_zero, Option.some.injEq] at hi
      subst hi
      refine ⟨_, rfl, fun j u hv => ?_⟩
      rw [Nat.zero_mul, add_lit, add_lit, h24, cell_blk (alloc_new w21 _), Nat.zero_add]
      rw [hy] at hv
      simpa [encF] using hv
    | succ i => simp at hi
  clear h24
  have g24 := g21.trans' f24
  have hid := idO 2 s
  have hfs := fileO_size hk2 hss hF
  have htot : totalF [y] = (fileO 2 s).size := by rw [hy]; simp [totalF]
  refine (new_spec (n := 1) (c := 1) hone rfl (by decide) (by rw [htot]; omega) (fun x hx => ?_) (fun W' => AnyF.slices_SortFunc_none sortLays none 0 _ W')).mono ?_
  · rw [List.mem_singleton] at hx
    subst hx
    rw [hy]
    dsimp only
    rw [pathO_size (isId_parts hid).1]; decide
  rintro e w26 ⟨v, rfl, f26, hN⟩
  have hok1 : NewOK [y] := one_ok (by rw [hy]; exact pathO_clean hid)
  rcases hN with ⟨_, h⟩ | ⟨_, _, ys, hp, hris, hN⟩
  · rw [htot] at h
    rcases h with h | h
    · simp at h
    · omega
  have hys : ys = [y] := List.perm_singleton.1 hp
  subst hys
  rcases hN with ⟨hno, rfl⟩ | ⟨_, b, lf, rfl, _, hS⟩
  · exact absurd hok1 hno
  have g26 := g24.trans' f26
  have hpk : underE [y] packS = [] := by
    unfold underE
    rw [List.filter_cons_of_neg (by rw [hy]; dsimp only; rw [pack_no hid]; simp)]; rfl
  have hget : getE [y] (pathO (idS 2 s)) = (fileO 2 s, 0) := by
    unfold getE
    rw [List.find?_cons_of_pos (by rw [hy]; simp), hy]
  refine ⟨some ⟨b, 0, none⟩, 0, rfl, fun h => (by cases h), fun _ => ⟨fun h => (by cases h), fun _ => ⟨fun h => (by cases h), fun _ => (oopen_spec hS hris hpk).mono ?_⟩⟩⟩
  rintro e w30 ⟨rfl, hD30, f30⟩
  have g30 := g26.trans' f30
  have f12_30 := (((f16.trans' f16_21).trans' f24).trans' f26).trans' f30
  refine ⟨_, _, rfl, fun h => (by cases h), fun _ => ⟨fun h => (by cases h), fun _ => ⟨2, s, boxO_load (f12_30.keep hb12 (by simp)), (oid_spec 2 s hss (h10.keep g30)).mono ?_⟩⟩⟩
  rintro e w36 ⟨⟨_, rfl⟩ | ⟨hno, rfl⟩, f36⟩
  rotate_left
  · exact absurd hk2 hno
  have g36 := g30.trans' f36
  have f26_36 := f30.trans' f36
  refine ⟨_, _, rfl, (dkind_spec hk2 hss hF (h10.keep g36) (hS.keep f26_36) hris hget (f36.keep hD30 (by simp)) 2).mono ?_⟩
  rintro e w40 ⟨rfl, f40⟩
  have g40 := g36.trans' f40
  refine ⟨_, _, rfl, (dkind_spec hk2 hss hF (h10.keep g40) (hS.keep (f26_36.trans' f40)) hris hget ((f36.trans' f40).keep hD30 (by simp)) 3).mono ?_⟩
  rintro e w44 ⟨rfl, f44⟩
  have g44 := g40.trans' f44
  rw [if_pos rfl, if_pos rfl, if_neg (by decide), if_neg (by decide)]
  refine ⟨_, _, rfl, (parse_spec s (by omega) w44 (ht.keep g44 (by simp))).mono ?_⟩
  rintro e w48 ⟨l49, rfl, o48, f48⟩
  rw [parse_back h0 s hsl] at o48 ⊢
  dsimp only at o48 ⊢
  have g48 := g44.trans' f48
  have f2_48 : Fr (fun _ => False) w2 w48 := ((((((f5.trans' f5_12).trans' f12_30).trans' f36).trans' f40).trans' f44).trans' f48)
  have hE49 : ∀ {w' : World}, Fr (fun _ => False) w48 w' → Ents w' l49.a l49.len zs := fun hf => ents_own (o48.keep hf (by simp)) hn2 hi2
  have hl49 : l49.len = zs.length := o48.len
  refine ⟨l49, 0, rfl, fun h => (by cases h), fun _ => ⟨fun h => (by cases h), fun _ => ⟨fun h => (by cases h), fun _ => (same_spec (hE49 (.refl _ _)) (hE2 f2_48) (by omega)).mono ?_⟩⟩⟩
  rintro e w52 ⟨⟨r, rfl, hr⟩, d52⟩
  have f52 : Fr (fun _ => False) w48 w52 := .drew _ d52
  have hrt : r = true := hr.2 rfl
  subst hrt
  have g52 := g48.trans' f52
  refine ⟨true, rfl, fun h => (by cases h), fun _ => ⟨fun i w' => ∃ k : Nat, i = k ∧ k ≤ zs.length ∧ Fr (fun _ => False) w52 w', fun i _ => zs.length - i.toNat, ⟨0, rfl, Nat.zero_le _, .refl _ _⟩, ?_⟩⟩
  rintro i w57 ⟨k, rfl, hk, f57⟩
  refine ⟨fun hlt => ?_, fun _ => ⟨rfl, g52.trans' f57⟩⟩
  have hlt := of_decide_eq_true hlt
  have hkl : k < zs.length := by omega
  have hx : zs[k]? = some zs[k] := List.getElem?_eq_getElem hkl
  have hoka := (okAt_iff hx).1 (hok k hkl)
  generalize zs[k] = x at hx hoka
  obtain ⟨ad, had, hld⟩ := (hE2 ((f2_48.trans' f52).trans' f57)).reads.load elE hx
  rw [Int.toNat_natCast]
  refine ⟨⟨by omega, by omega⟩, ad, had, x.mode, x.name, x.id, hld, fun w62 h62 => ?_⟩
  subst h62
  refine ⟨_, boxE_run w57 x, ?_⟩
  obtain ⟨w63, hw63⟩ : ∃ w63, w57.alloc (.cells (encE x).toArray T_api_Entry) = w63 := ⟨_, rfl⟩
  have hb63 : w63.heap[w57.heap.size]? = some (.cells (encE x).toArray T_api_Entry (0, 0)) := by rw [← hw63]; exact alloc_new _ _
  have f63 : Fr (fun _ => False) w57 w63 := by rw [← hw63]; exact .alloc _ _ _
  rw [hw63]
  clear hw63
  refine ⟨x.name, by rw [cell_blk hb63]; rfl, (tfind_spec (hE49 ((f52.trans' f57).trans' f63)) (by omega) x.name).mono ?_⟩
  rintro e w66 ⟨rfl, f66⟩
  rw [find_take hx rfl hoka.2.1]
  dsimp only
  refine ⟨_, _, _, _, rfl, fun w71 h71 => ?_⟩
  subst h71
  refine ⟨_, boxE_run w66 x, fun h => (by cases h), fun _ => ?_⟩
  obtain ⟨w72, hw72⟩ : ∃ w72, w66.alloc (.cells (encE x).toArray T_api_Entry) = w72 := ⟨_, rfl⟩
  have hb72 : w72.heap[w66.heap.size]? = some (.cells (encE x).toArray T_api_Entry (0, 0)) := by rw [← hw72]; exact alloc_new _ _
  have f72 : Fr (fun _ => False) w66 w72 := by rw [← hw72]; exact .alloc _ _ _
  rw [hw72]
  clear hw72
  have e1 : IntKind.i64.wrap ((k : Int) + 1) = ((k + 1 : Nat) : Int) := by rw [wrap_i64 (by omega) (by omega)]; omega
  rw [e1]
  refine ⟨_, _, _, boxE_load2 hb72, _, _, _, boxE_load2 ((f66.trans' f72).keep hb63 (by simp)), fun hne => ?_, fun _ => ⟨⟨k + 1, rfl, by omega, ((f57.trans' f63).trans' f66).trans' f72⟩, by omega⟩⟩
  simp at hne
end Go.Proofs.YtopjkjiobdigaaaGreatDoor

/- Slices of structs that came in, opened to cells. No condition: for all programs. -/
set_option linter.unusedVariables false
namespace Vc
open Go Go.ChangeShapes Go.WideShapes Go.Deep
section
variable {H : Type} {enc : TypeId × Value → H} {P : Program} {w : World} {base : Nat} {spare : Nat → Bool} {held : Bool}
/-- What the fields of an element say, its cells say. -/
def FieldsSay (enc : TypeId × Value → H) (P : Program) (w : World) (base : Nat) (spare : Nat → Bool) (held : Bool) (fs : Array Field) (Q : List Value → Prop) : Prop :=
  ∀ n (cs : List Value), cs.length = fs.size → (∀ (j : Nat) (f : Field) (v : Value), fs[j]? = some f → cs[j]? = some v → ∃ y, DataW.trod enc P w base spare held n f.type [v] = some y) → Q cs
theorem open_rows {t e : TypeId} {fs : Array Field} {fuel : Nat} {a : Option Addr} {len cap : Nat} {x : DataW H × List MemPlace} {Q : List Value → Prop} (ht : P.underlying t = some (.slice e)) (he : P.underlying e = some (.struct fs))
    (hone : oneCellFields P fs = true) (hC : P.cellsOf e = fs.size) (hQ : FieldsSay enc P w base spare held fs Q) (h : DataW.trod enc P w base spare held fuel t [.slice a len cap] = some x) : IsRows fs.size Q w a len := by
  intro i hi
  rcases open_slice ht h with ⟨h0, _⟩ | ⟨b, l, c, m, n, D, Pl, hcs, hb, hl, hm, hmm, hx, hi'⟩
  · simp only [List.cons.injEq, Value.slice.injEq] at h0; omega
  · simp only [List.cons.injEq, Value.slice.injEq, and_true] at hcs
    obtain ⟨rfl, rfl, rfl⟩ := hcs
    obtain ⟨cs, hc, htr⟩ := hi' i (by rw [hmm]; split <;> omega)
    obtain ⟨ys, n', _, _, hlen, hyl, hf⟩ := DataW.trod_struct he htr
    obtain ⟨_, hcl, hat⟩ := World.cells?_some hc
    rw [hC] at hcl hat
    refine ⟨b, cs, rfl, hcl, hQ n' cs hcl ?_, ?_⟩
    · intro j f v hj hv
      obtain ⟨ho, hk⟩ := hone_of hone j f hj
      have hjl : j < fs.size := (Array.getElem?_eq_some_iff.1 hj).1
      have h1 := hf j f hj
      have h2 : (cs.drop j).take 1 = [v] := by
        obtain ⟨hjl', hv'⟩ := List.getElem?_eq_some_iff.1 hv
        rw [List.drop_eq_getElem_cons hjl', hv']; rfl
      rw [ho, hk, h2, List.getElem?_eq_getElem (show j < ys.length by omega)] at h1
      exact ⟨_, h1⟩
    · intro j v hv
      have hjl := (List.getElem?_eq_some_iff.1 hv).1
      rw [← hv, ← hat j (by omega), add_add]
/-- As above, and what was read takes no more bytes than memory has. -/
def FieldsSayW (enc : TypeId × Value → H) (P : Program) (w : World) (base : Nat) (spare : Nat → Bool) (held : Bool) (fs : Array Field) (Q : List Value → Prop) : Prop :=
  ∀ n (cs : List Value), cs.length = fs.size → (∀ (j : Nat) (f : Field) (v : Value), fs[j]? = some f → cs[j]? = some v → ∃ y, DataW.trod enc P w base spare held n f.type [v] = some y ∧ (y.1.weights P f.type).all (· ≤ reachBytes) = true) → Q cs
theorem weightsAll_mem {e : TypeId} : ∀ {ds : List (DataW H)} {d : DataW H}, d ∈ ds → ∀ n ∈ d.weights P e, n ∈ DataW.weightsAll P e ds
  | d0 :: ds, d, h, n, hn => by
    simp only [DataW.weightsAll, List.mem_append]
    rcases List.mem_cons.1 h with rfl | h
    · exact .inl hn
    · exact .inr (weightsAll_mem h n hn)
theorem open_rowsW {t e : TypeId} {fs : Array Field} {fuel : Nat} {a : Option Addr} {len cap : Nat} {x : DataW H × List MemPlace} {Q : List Value → Prop} (ht : P.underlying t = some (.slice e)) (he : P.underlying e = some (.struct fs))
    (hone : oneCellFields P fs = true) (hC : P.cellsOf e = fs.size) (hsz : (x.1.weights P t).all (· ≤ reachBytes) = true) (hQ : FieldsSayW enc P w base spare held fs Q) (h : DataW.trod enc P w base spare held fuel t [.slice a len cap] = some x) : IsRows fs.size Q w a len ∧ len ≤ cap := by
  rcases open_slice ht h with ⟨h0, _⟩ | ⟨b, l, c, m, n, D, Pl, hcs, hb, hl, hm, hmm, hx, hi'⟩
  · simp only [List.cons.injEq, Value.slice.injEq, and_true] at h0
    exact ⟨fun i hi => by omega, by omega⟩
  · simp only [List.cons.injEq, Value.slice.injEq, and_true] at hcs
    obtain ⟨rfl, rfl, rfl⟩ := hcs
    refine ⟨fun i hi => ?_, hl⟩
    obtain ⟨cs, hc, htr⟩ := hi' i (by rw [hmm]; split <;> omega)
    have hwD : ((D i).weights P e).all (· ≤ reachBytes) = true := by
      rw [List.all_eq_true] at hsz ⊢
      intro q hq
      refine hsz q ?_
      rw [hx]
      simp only [DataW.weights, ht, List.mem_cons, List.mem_append]
      exact .inr (.inl (weightsAll_mem (List.mem_map.2 ⟨i, List.mem_range.2 hi, rfl⟩) q hq))
    obtain ⟨ys, n', _, hxe, hlen, hyl, hf⟩ := DataW.trod_struct he htr
    obtain ⟨_, hcl, hat⟩ := World.cells?_some hc
    rw [hC] at hcl hat
    refine ⟨b, cs, rfl, hcl, hQ n' cs hcl ?_, ?_⟩
    · intro j f v hj hv
      obtain ⟨ho, hk⟩ := hone_of hone j f hj
      have hjl : j < fs.size := (Array.getElem?_eq_some_iff.1 hj).1
      have h1 := hf j f hj
      have h2 : (cs.drop j).take 1 = [v] := by
        obtain ⟨hjl', hv'⟩ := List.getElem?_eq_some_iff.1 hv
        rw [List.drop_eq_getElem_cons hjl', hv']; rfl
      rw [ho, hk, h2, List.getElem?_eq_getElem (show j < ys.length by omega)] at h1
      refine ⟨_, h1, ?_⟩
      have hDe : D i = .agg (ys.map (·.1)) := by
        have := congrArg Prod.fst hxe
        simpa using this
      rw [hDe] at hwD
      simp only [DataW.weights, he] at hwD
      rw [List.all_eq_true] at hwD ⊢
      intro q hq
      refine hwD q (DataW.weights_mem_each (j := j) (t := f.type) (d := (ys[j]'(by omega)).1) ?_ ?_ q hq)
      · rw [List.getElem?_map, Array.getElem?_toList, hj]; rfl
      · rw [List.getElem?_map, List.getElem?_eq_getElem (show j < ys.length by omega)]; rfl
    · intro j v hv
      have hjl := (List.getElem?_eq_some_iff.1 hv).1
      rw [← hv, ← hat j (by omega), add_add]
/-- A slice of one-celled elements: what an element says, its cell says. -/
theorem open_cells {t e : TypeId} {fuel : Nat} {a : Option Addr} {len cap : Nat} {x : DataW H × List MemPlace} {Q : List Value → Prop} (ht : P.underlying t = some (.slice e)) (hC : P.cellsOf e = 1)
    (hQ : ∀ n v y, DataW.trod enc P w base spare held n e [v] = some y → Q [v]) (h : DataW.trod enc P w base spare held fuel t [.slice a len cap] = some x) : IsRows 1 Q w a len := by
  intro i hi
  rcases open_slice ht h with ⟨h0, _⟩ | ⟨b, l, c, m, n, D, Pl, hcs, hb, hl, hm, hmm, hx, hi'⟩
  · simp only [List.cons.injEq, Value.slice.injEq] at h0; omega
  · simp only [List.cons.injEq, Value.slice.injEq, and_true] at hcs
    obtain ⟨rfl, rfl, rfl⟩ := hcs
    obtain ⟨cs, hc, htr⟩ := hi' i (by rw [hmm]; split <;> omega)
    obtain ⟨_, hcl, hat⟩ := World.cells?_some hc
    rw [hC] at hcl hat
    obtain ⟨v, rfl⟩ : ∃ v, cs = [v] := List.length_eq_one_iff.1 hcl
    refine ⟨b, [v], rfl, rfl, hQ _ v _ htr, ?_⟩
    intro j u hu
    have hjl := (List.getElem?_eq_some_iff.1 hu).1
    rw [← hu, ← hat j hjl, add_add]
end
end Vc

/- CartularyFolders: what the row's condition on the listed tables gives (Itoa's table, the one that folds letters); the entries that came in, as a list. No condition. -/
set_option linter.unusedVariables false
namespace Go.Proofs.YtopjkjiobdigaaaGreatDoor
open Go Vc HexM TreeM Go.Proofs Go.ChangeShapes Go.WideShapes Go.ChangeAt Go.RowKit

theorem ents_of {W : World} {a : Option Addr} : ∀ (n : Nat), IsRows 3 (fun vs => ∃ x0 x1 x2, vs = [.int .i64 x0, .string x1, .string x2] ∧ (Lit.int .i64 x0).wf = true ∧ x1.size ≤ reachBytes ∧ x2.size ≤ reachBytes) W a n → ∃ xs, Ents W a n xs
  | 0, _ => ⟨[], rfl, .nil _ _, fun x hx => by simp at hx, fun x hx => by simp at hx⟩
  | n + 1, h => by
    obtain ⟨xs, hE⟩ := ents_of n fun i hi => h i (by omega)
    obtain ⟨ad, vs, had, hl, ⟨x0, x1, x2, rfl, h0, h1, h2⟩, hc⟩ := h n (by omega)
    have hml : reachBytes ≤ 140737488355328 := by decide
    refine ⟨xs ++ [⟨x0, x1, x2⟩], by rw [List.length_append, hE.len]; rfl, fun i x hx => ?_, fun x hx => ?_, fun x hx => ?_⟩
    · by_cases hi : i < xs.length
      · rw [List.getElem?_append_left hi] at hx
        exact hE.reads i x hx
      · rw [List.getElem?_append_right (by omega)] at hx
        have hi0 : i - xs.length = 0 := by
          by_cases h : i - xs.length = 0
          · exact h
          · rw [List.getElem?_eq_none (by simp; omega)] at hx; cases hx
        rw [hi0] at hx
        simp only [List.getElem?_cons_zero, Option.some.injEq] at hx
        subst hx
        refine ⟨ad, had, fun j v hv => ?_⟩
        have := hc j v hv
        rw [add_add, show i = n by have := hE.len; omega]
        exact this
    · rcases List.mem_append.1 hx with hx | hx
      · exact hE.name x hx
      · simp only [List.mem_cons, List.mem_nil_iff, or_false] at hx
        subst hx; simp only; omega
    · rcases List.mem_append.1 hx with hx | hx
      · exact hE.id x hx
      · simp only [List.mem_cons, List.mem_nil_iff, or_false] at hx
        subst hx; simp only; omega
theorem fold_cell {W : World} (h : Lib.VarReads Tryz.prog W "unicode.asciiFold" Rows.laid_unicode_asciiFold) (r d : Nat) (hr : r < 128) (hd : (match (Rows.laid_unicode_asciiFold : DataW Unit) with | .agg l => l[r]? | _ => none) = some (.lit (.int .u16 (d : Int)))) : W.cell? ⟨G_unicode_asciiFold, r, none⟩ = some (.int .u16 (d : Int)) := by
  obtain ⟨g, t, cs, fuel, p, hg, ht, hv, hdd⟩ := h
  obtain rfl := Option.some.inj ((show Tryz.prog.globalNamed "unicode.asciiFold" = some G_unicode_asciiFold by kernel_rfl).symm.trans hg)
  obtain ⟨n, hty⟩ : ∃ n, (Tryz.prog.globals[G_unicode_asciiFold]?).map (·.type) = some n := ⟨_, ht⟩
  have hu : ∀ n, (Tryz.prog.globals[G_unicode_asciiFold]?).map (·.type) = some n → Tryz.prog.underlying n = some (.array 128 T_uint16) := fun n hn => by
    obtain rfl := Option.some.inj ((show (Tryz.prog.globals[G_unicode_asciiFold]?).map (·.type) = some T_128_uint16 by kernel_rfl).symm.trans hn)
    kernel_rfl
  obtain ⟨xs, m, _, ex, _, hl, hel⟩ := DataW.trod_array (hu t ht) hdd
  have c5 : Tryz.prog.cellsOf T_uint16 = 1 := by kernel_rfl
  have hE := hel r hr
  rw [c5, Nat.mul_one, List.getElem?_eq_getElem (by omega)] at hE
  obtain ⟨z, e1, e2, _⟩ := DataW.trod_int (P := Tryz.prog) (t := T_uint16) (k := .u16) (by kernel_rfl) hE
  have e3 : (.agg (xs.map (·.1)) : DataW Unit) = Rows.laid_unicode_asciiFold := (congrArg Prod.fst ex).symm
  rw [← e3] at hd
  simp only [List.getElem?_map, List.getElem?_eq_getElem (by omega : r < xs.length), Option.map_some, Option.some.injEq, e2, DataW.lit.injEq, Lit.int.injEq, true_and] at hd
  rw [World.var?_cell hg hv r, ← hd]
  have : cs.toList[r]? = some (.int .u16 z) := by
    have h0 : ((cs.toList.drop r).take 1)[0]? = some (.int .u16 z) := by rw [e1]; rfl
    simpa using h0
  simpa using this
theorem tab_of {W : World} (h : laidMetH Tryz.prog Rows.cartularyFoldersRow.laid W) : FoldT W := by
  rw [MakeChecks.laidMetH_plain _ _ _ (by kernel_rfl)] at h
  have hf := Lib.laidMet.reads h (n := _) (d := Rows.laid_unicode_asciiFold) (.tail _ (.tail _ (.tail _ (.tail _ (.tail _ (.tail _ (.head _)))))))
  have h46 := fold_cell hf 46 46 (by decide) rfl
  refine ⟨fun c d hcd => ?_, World.block_lt_of_cell? _ _ h46⟩
  simp only [List.mem_cons, List.mem_nil_iff, or_false, Prod.mk.injEq] at hcd
  rcases hcd with ⟨rfl, rfl⟩ | ⟨rfl, rfl⟩ | ⟨rfl, rfl⟩ | ⟨rfl, rfl⟩ | ⟨rfl, rfl⟩ | ⟨rfl, rfl⟩ | ⟨rfl, rfl⟩
  · exact h46
  · exact fold_cell hf 103 71 (by decide) rfl
  · exact fold_cell hf 71 103 (by decide) rfl
  · exact fold_cell hf 105 73 (by decide) rfl
  · exact fold_cell hf 73 105 (by decide) rfl
  · exact fold_cell hf 116 84 (by decide) rfl
  · exact fold_cell hf 84 116 (by decide) rfl
theorem tab10_reads {W : World} (h : Lib.VarReads Tryz.prog W "internal/strconv.uint64pow10" Rows.laid_internal_strconv_uint64pow10) : Tab10 W := by
  obtain ⟨g, t, cs, fuel, p, hg, ht, hv, hdd⟩ := h
  obtain rfl := Option.some.inj ((show Tryz.prog.globalNamed "internal/strconv.uint64pow10" = some G_strconv_uint64pow10 by kernel_rfl).symm.trans hg)
  have hu : ∀ n, (Tryz.prog.globals[G_strconv_uint64pow10]?).map (·.type) = some n → Tryz.prog.underlying n = some (.array 20 T_uint64) ∧ Tryz.prog.cellsOf n = 20 := fun n hn => by
    obtain rfl := Option.some.inj ((show (Tryz.prog.globals[G_strconv_uint64pow10]?).map (·.type) = some T_20_uint64 by kernel_rfl).symm.trans hn)
    exact ⟨by kernel_rfl, by kernel_rfl⟩
  have := Lib.cells_of_tab (k := .u64) (zs := Lib.pow10Tab) (hu t ht).1 (by kernel_rfl) (by kernel_rfl) (hu t ht).2 hdd
  unfold Tab10 Lib.TabIs
  rw [hv, ← this]
theorem tab10_of {W : World} (h : laidMetH Tryz.prog Rows.cartularyFoldersRow.laid W) : Tab10 W := by
  rw [MakeChecks.laidMetH_plain _ _ _ (by kernel_rfl)] at h
  exact tab10_reads (Lib.laidMet.reads h (n := _) (d := Rows.laid_internal_strconv_uint64pow10) (.tail _ (.tail _ (.head _))))
end Go.Proofs.YtopjkjiobdigaaaGreatDoor

/- The statement CartularyFoldersSaid of this seat: for every input the law returns true and its arguments read as they did. No condition. -/
namespace Go.Proofs.YtopjkjiobdigaaaGreatDoor.cartularyFolders
open Go.ChangeShapes Go.WideShapes Go.ChangeAt Go.RowKit
open Go.ChangeMaps (open_string shut_string)
set_option linter.unusedVariables false

theorem own : ownKnob Tryz.prog.godebug = none := by kernel_rfl
theorem laidOut : laidOutB Tryz.prog = true := by kernel_rfl

set_option maxRecDepth 100000 in
theorem lifted (os : Os) (started : os.Started) (H : Type) (enc : TypeId × Value → H) :
    ReturnsInHanded {} Tryz.checked os 3 .any (fun w args => (Rows.cartularyFoldersSpec.pre enc Tryz.prog Tryz.f3 [] false w args ∧ laidMetH Tryz.prog Rows.cartularyFoldersRow.laid w) ∧ sizedMet enc Tryz.prog Tryz.f3 (OpenSpec.ofChange Rows.cartularyFoldersSpec) false w args)
      (Rows.cartularyFoldersSpec.post enc Tryz.prog Tryz.f3 false true false false) := by
  refine returnsInHanded_of_change_and (C := Tryz.checked) (X := fun w _ => laidMetH Tryz.prog Rows.cartularyFoldersRow.laid w) (fun _ _ _ hh h => h.of_heap hh) own started (by kernel_rfl) Tryz.func3
    (ChangeSpec.witness_shaped (enc := enc) (C := Tryz.checked) (os := os) (X := fun w _ => laidMetH Tryz.prog Rows.cartularyFoldersRow.laid w) false (World.laidAll Tryz.prog os Rows.cartularyFoldersRow.laid) #[.slice none 0 0] 8 (World.laidAll_os _ _ _)
      (World.shaped_of_ZipB (by kernel_rfl) (by kernel_rfl)) (by kernel_rfl) (by kernel_rfl) (by kernel_rfl)
      (by rw [MakeChecks.laidMetH_plain _ _ _ (by kernel_rfl)]; exact laidMet_laidAll _ (by kernel_rfl) (by kernel_rfl))) ?_
  intro W base args ds gs before hval0 hW _ hsz hL _
  have hval : ∀ (j : Nat) t v, Tryz.f3.params[j]? = some t → args[j]? = some v → Value.okWide Tryz.prog W .any base t v := hval0
  have hW' := hW
  obtain ⟨p, q, hA0, hV, rfl, hfz, hnd⟩ := hW
  have hA : DataW.TrodAll enc Tryz.prog W 0 (fun _ => true) true Tryz.f3.params.toList args.toList ds p := hA0
  rw [Tryz.params3] at hA hval
  obtain ⟨v0, vs0, d0, ds0, p0, q0, hargs, rfl, rfl, h0, r0⟩ := trodAll_cons hA
  obtain ⟨rfl, rfl, rfl⟩ := trodAll_nil r0
  obtain rfl : args = #[v0] := by cases args; simp_all
  obtain ⟨rfl, rfl⟩ := trodVars_none hV
  obtain ⟨a0, len0, cap0, rfl⟩ := okWide_slice Tryz.underlying22 (hval 0 22 v0 rfl rfl)
  have k0 := h0
  have lt0 : ∀ x ∈ p0, x.block < W.heap.size := by obtain ⟨m, hm⟩ := k0; exact DataW.trod_lt m _ _ _ hm
  obtain ⟨w0, c0⟩ : Vc.IsRows 3 (fun vs => ∃ x0 x1 x2, vs = [.int .i64 x0, .string x1, .string x2] ∧ (Lit.int .i64 x0).wf = true ∧ x1.size ≤ reachBytes ∧ x2.size ≤ reachBytes) W a0 len0 ∧ len0 ≤ cap0 := by
    obtain ⟨fuel, hf⟩ := h0
    refine Vc.open_rowsW Tryz.underlying22 Tryz.underlying47 (by kernel_rfl) (by kernel_rfl) (List.all_eq_true.2 fun q hq => List.all_eq_true.1 hsz q (DataW.weights_mem_each (j := 0) (t := 22) rfl rfl q hq)) ?_ hf
    intro n cs hcs hall
    match cs, hcs with
    | [c0, c1, c2], _ =>
      obtain ⟨y0, g0, k0⟩ := hall 0 _ c0 rfl rfl
      obtain ⟨x0, e0, d0, f0⟩ := DataW.trod_int Tryz.underlying3 g0
      obtain rfl := (List.cons.inj e0).1
      obtain ⟨y1, g1, k1⟩ := hall 1 _ c1 rfl rfl
      obtain ⟨x1, e1, d1, f1⟩ := DataW.trod_string Tryz.underlying9 g1
      obtain rfl := (List.cons.inj e1).1
      have f1 : x1.size ≤ reachBytes := by simpa [d1, DataW.weights] using k1
      obtain ⟨y2, g2, k2⟩ := hall 2 _ c2 rfl rfl
      obtain ⟨x2, e2, d2, f2⟩ := DataW.trod_string Tryz.underlying9 g2
      obtain rfl := (List.cons.inj e2).1
      have f2 : x2.size ≤ reachBytes := by simpa [d2, DataW.weights] using k2
      exact ⟨x0, x1, x2, rfl, f0, f1, f2⟩
  clear hA0 hval0
  refine ((ents_of len0 w0).elim fun xs hE => folders_walk hE c0 (tab_of hL) (tab10_of hL)).mono fun e W' ⟨he, bel⟩ => ?_
  subst he
  exact ⟨_, rfl, _, _, _, [], _, [], hW', trodAll_mk1 (shut_bool Tryz.underlying4 _), (trodAll_cons_mk (Below.trod laidOut (by kernel_rfl) (of_decide_eq_true (by kernel_rfl)) k0 bel lt0) trodAll_mk0), rfl, bel.frame _, fun h => by cases h⟩

theorem over : Rows.cartularyFoldersRow.holds Tryz.pinned (OpenSpec.ofChange Rows.cartularyFoldersSpec) :=
  OpenClaim.holds_of_wide 3 Tryz.f3 rfl rfl rfl rfl rfl rfl rfl ⟨rfl, rfl, rfl, rfl, rfl⟩ rfl rfl rfl rfl rfl (by kernel_rfl) Tryz.func3 (by kernel_rfl)
    (of_decide_eq_true (by kernel_rfl)) (by unfold Func.isWrapper; first | (rw [if_pos (by decide +kernel)]; kernel_rfl) | (rw [if_neg (by decide +kernel)]; exact ⟨rfl, rfl⟩))
    (fun os started H enc _ => lifted os started H enc)

/-- The statement. -/
theorem proved : Rows.CartularyFoldersCardSaid :=
  Claim7.holds_tied_plain_at .later [] [.data, .data, .data, .data, .sentinel, .sentinel, .data, .data, .pinned, .pinned] true (true, "8b9285c7afae342476d9246445aae83e71282f3af9f98fdd33d686ae86285250") true over (fun _ h => by cases h) (by kernel_rfl) (fun _ h => by cases h) cartularyFolders_row_tie rfl ⟨rfl, rfl⟩ (by kernel_rfl) rfl
    (fun f fn hf hfn => by
      obtain rfl : f = 3 := Option.some.inj ((show Tryz.prog.funcNamed "cartulary/cartularytop.CartularyFolders" = some 3 by kernel_rfl).symm.trans hf) |>.symm
      obtain rfl : fn = Tryz.f3 := (Option.some.inj (Tryz.func3.symm.trans hfn)).symm
      exact ⟨by kernel_rfl, fun j t ht => by
        rw [Tryz.params3] at ht
        have hm : t ∈ [22] := by simpa using Array.mem_of_getElem? ht
        have hall : ([22].all fun u => !Tryz.prog.wantsStandIn u) = true := by kernel_rfl
        exact (show Tryz.prog.wantsStandIn t = false by simpa using List.all_eq_true.1 hall t hm)⟩)
    (by kernel_rfl)
#print axioms proved
end Go.Proofs.YtopjkjiobdigaaaGreatDoor.cartularyFolders
