/- Texts of this seat in one: made by a program of ours. -/
import Derived.Test.YtaaimcbicpgjoaaGreatDoorCartularyPacksQ0
import Derived.Test.YtaaimcbicpgjoaaGreatDoorCartularyPacksQ1
import Derived.Test.YtaaimcbicpgjoaaGreatDoorCartularyPacksQ3
import Derived.Defers
import Derived.Recover
import Derived.Test.YtaaimcbicpgjoaaGreatDoorProg
import Derived.Laws.CopyRow
import Derived.Shelf.Lays
import Derived.Shelf.LaysM
import Derived.Shelf.Strings.BuilderX
import Derived.Shelf.Strconv.Itoa3
import Derived.Shelf.Strconv.Atoi
import Derived.Lib.LaidTab
/- Functions that defer one closure behind some first statements: their formula, and that it is enough. No condition: for all programs. -/
set_option linter.unusedVariables false
namespace Vc
open Go

/-- A region that makes a closure and defers its call. -/
def deferOf : Code → Option (List Oper × Oper × Operand)
  | .region _ ops false => match ops.toList with
    | [o1, ⟨none, .defer ⟨.value x, args, _⟩, _, _, _, none⟩] => match args.toList with
      | [] => some (ops.toList, o1, x)
      | _ => none
    | _ => none
  | _ => none
theorem deferOf_spec {c : Code} {l : List Oper} {o1 : Oper} {x : Operand} (h : deferOf c = some (l, o1, x)) :
    ∃ id ops o2 args tys, c = .region id ops false ∧ l = ops.toList ∧ ops.toList = [o1, o2] ∧ o2.dst = none ∧ o2.op = .defer ⟨.value x, args, tys⟩ ∧ args.toList = [] ∧ o2.guard = none := by
  unfold deferOf at h
  split at h
  · rename_i id ops
    split at h
    · rename_i o1' x' args tys ty pos after hl
      split at h
      · rename_i ha
        simp only [Option.some.injEq, Prod.mk.injEq] at h
        obtain ⟨rfl, rfl, rfl⟩ := h
        exact ⟨id, ops, _, args, tys, rfl, rfl, hl, rfl, rfl, ha, rfl⟩
      · cases h
    · cases h
  · cases h
section
variable (P : Program) (ty : Nat → Sh) (N : Nat) (ann : Ann)
/-- The formula of such a function's body; K knows what is deferred. -/
def WD : Code → Env → World → (Option (FuncId × Array Value) → Ex → Env → World → Prop) → Prop
  | .seq x y, e, w, K => match deferOf x with
    | some (ops, o1, z) => wOps P ty N .full ops [o1] e w fun e' w' => match has e' z with
      | false => False
      | true => match pureRun P (Deferred.ofValue (vl e' z) #[]) with
        | some d => match d.target with
          | .fn _ _ => match pureRun P (invoke d.target d.args) with
            | some (.enter f args) => W P ty N ann y e' w' fun x e'' w'' => K (some (f, args)) x e'' w''
            | _ => False
          | _ => False
        | none => False
    | none => W P ty N ann x e w fun x' e' w' => match x' with
      | .n => WD y e' w' K
      | x' => K none x' e' w'
  | _, _, _, _ => False
end
theorem WD_sound {P : Program} {ty : Nat → Sh} {N : Nat} {ann : Ann} (hm : P.follows .mixedOrders = true) : ∀ (c : Code) (e : Env) (w : World) (K : Option (FuncId × Array Value) → Ex → Env → World → Prop), WD P ty N ann c e w K →
    ∀ (a : Act) (Q : Exit → Act → World → Prop), Sub [] N e a → (∀ x e' w' a', K none x e' w' → Sub [] N e' a' → Q x.exit a' w') →
    (∀ f args d x e' w' a', K (some (f, args)) x e' w' → pureRun P (invoke d.target d.args) = some (.enter f args) → (∃ fv cap, d.target = .fn fv cap) → Sub [d] N e' a' → Q x.exit a' w') → c.wp P Q a w
  | .seq x y, e, w, K, h, a, Q, hs, hk, hd => by
    simp only [WD] at h
    split at h
    · rename_i l o1 z hdo
      obtain ⟨id, ops, o2, args, tys, rfl, rfl, hl, hdst, hop, hargs, hg⟩ := deferOf_spec hdo
      refine wp_seq (wp_region_list ?_)
      have step2 : ∀ (e' : Env) (w' : World) (a' : Act), Sub [] N e' a' → (match has e' z with
          | false => False
          | true => match pureRun P (Deferred.ofValue (vl e' z) #[]) with
            | some d => match d.target with
              | .fn _ _ => match pureRun P (invoke d.target d.args) with
                | some (.enter f args) => W P ty N ann y e' w' fun x e'' w'' => K (some (f, args)) x e'' w''
                | _ => False
              | _ => False
            | none => False) → wpList P ops (Exit.then (y.wp P Q) Q) [o2] a' w' := by
        intro e' w' a' hs' h'
        have hwant : Region.wanted o2 (yielded ops a'.tmps) = true := by simp [Region.wanted, hg]
        unfold wpList
        rw [if_pos hwant]
        refine .inl ?_
        split at h'
        · exact h'.elim
        rename_i hhas
        split at h'
        · rename_i d hpd
          split at h'
          · rename_i fv cap htar
            split at h'
            · rename_i f fargs hpi
              have hev : a'.eval z = vl e' z := hs'.vl hhas
              have hrun : (execOp a'.eval o2).run P w' = .ok (.defer d) w' := by
                have hr := pureRun_spec hpd w'
                have ha0 : args = #[] := by cases args; simp_all
                simp [execOp, hop, resolve, ha0, hev, hr, Result.andThen]
              unfold Oper.wp
              rw [hrun, Oper.upon_defer, hdst]
              unfold wpList
              have hsd : Sub [d] N e' { a' with defers := d :: a'.defers } := ⟨hs'.size, by rw [hs'.defers], hs'.at_⟩
              exact W_sound hm y e' w' _ h' _ Q hsd fun x e'' w'' a'' g1 _ g3 => hd f fargs d x e'' w'' a'' g1 hpi ⟨fv, cap, htar⟩ g3
            · exact h'.elim
          · exact h'.elim
        · exact h'.elim
      rw [hl]
      rw [hl] at h
      refine wGuard_open h hs (fun e1 he hs1 hw h => ?_) (fun e1 he hs1 hf hw h => ?_)
      · rw [← hl] at hw
        have hw : Region.wanted o1 (yielded ops a.tmps) = true := by simpa using hw
        unfold wpList; rw [if_pos hw]
        exact .inl (wStep_sound h hs1 fun v w' a' hh hs' => step2 _ w' a' hs' hh)
      · rw [← hl] at hw
        have hw : Region.wanted o1 (yielded ops a.tmps) = false := by simpa using hw
        unfold wpList; rw [if_neg (by simp [hw])]
        exact step2 _ w _ (hs1.put (v := (undef, false)) hf) h
    · refine wp_seq (W_sound hm x e w _ h a _ hs fun x e' w' a' h1 h2 h3 => ?_)
      cases x with
      | n => exact WD_sound hm y e' w' K h1 a' Q h3 hk hd
      | x i => exact hk (.x i) _ _ _ h1 h3
      | g i => exact hk (.g i) _ _ _ h1 h3
      | r => exact hk .r _ _ _ h1 h3
  | .skip, e, w, K, h, _, _, _, _, _ => h.elim
  | .region .., e, w, K, h, _, _, _, _, _ => h.elim
  | .cond .., e, w, K, h, _, _, _, _, _ => h.elim
  | .block .., e, w, K, h, _, _, _, _, _ => h.elim
  | .loop .., e, w, K, h, _, _, _, _, _ => h.elim
  | .exit .., e, w, K, h, _, _, _, _, _ => h.elim
  | .label .., e, w, K, h, _, _, _, _, _ => h.elim
  | .goto .., e, w, K, h, _, _, _, _, _ => h.elim
  | .ret, e, w, K, h, _, _, _, _, _ => h.elim
  | .rangeFunc .., e, w, K, h, _, _, _, _, _ => h.elim
  | .refuse .., e, w, K, h, _, _, _, _, _ => h.elim
  | .scope .., e, w, K, h, _, _, _, _, _ => h.elim
section
variable (P : Program) (ty : Nat → Sh) (ann : Ann)
/-- What the deferred closure is to do where the function returns: return itself, and leave behind what the function hands back. -/
def BodyD (fn : Func) (c : Code) (args : List (Value × Bool)) (w : World) (R : Value → World → Prop) : Prop :=
  WD P ty fn.ntmps ann c (envOf args 0) w fun D x e w' =>
    (match x with
    | .n | .r => match D with
      | none => answer P ty fn R e w'
      | some (f, fargs) => CallsD P f fargs .returning w' fun en u w'' => (∃ v, en = .returned v) ∧ u = .returning ∧ answer P ty fn R e w''
    | _ => False)
end
/-- THE FORMULA IS ENOUGH. -/
theorem calls_of_bodyD {P : Program} {ty : Nat → Sh} {ann : Ann} {f : FuncId} {fn : Func} {c : Code} {vs : List (Value × Bool)} {w : World} {R : Value → World → Prop} {R' : Ending → World → Prop}
    (hm : P.follows .mixedOrders = true) (hf : P.funcs[f]? = some fn) (hb : fn.body = some c) (hn : Nat.ble vs.length fn.ntmps = true)
    (h : BodyD P ty ann fn c vs w R) (hR : ∀ v w', R v w' → R' (.returned v) w') : Calls P f (firsts vs).toArray w R' := by
  have hlen : ∀ l : List (Value × Bool), (firsts l).length = l.length := fun l => by induction l with
    | nil => rfl
    | cons v r ih => simp [firsts, ih]
  have hn' : vs.length ≤ fn.ntmps := Nat.le_of_ble_eq_true hn
  have out : ∀ (D : List Deferred) (e : Env) (a : Act) (w' : World), Sub D fn.ntmps e a → answer P ty fn R e w' → ∃ v, (results fn a.tmps).run P w' = .ok v w' ∧ R' (.returned v) w' := fun D e a w' hs h1 => by
    obtain ⟨vs, hR1, hl, hv⟩ := ans_out hs _ _ h1
    refine ⟨tupled vs, ?_, hR _ _ hR1⟩
    have hmap := run_mapM (P := P) (w := w') hl hv
    have hres : results fn a.tmps = (fn.results.mapM (resAt a.tmps)) >>= fun vs => pure (if h : vs.size = 1 then vs[0] else .tuple vs) := by
      unfold results; congr 1
    rw [hres, Array.mapM_eq_mapM_toList]
    simp only [Sem.run_bind, Sem.run_map, hmap]
    match vs with
    | [] => rfl
    | [v] => rfl
    | v :: u :: r => rfl
  have hsub : Sub [] fn.ntmps (envOf vs 0) { tmps := (firsts vs).toArray ++ Array.replicate (fn.ntmps - (firsts vs).toArray.size) undef, defers := [] } := by
    refine ⟨by simp [hlen]; omega, rfl, fun t v hv => ?_⟩
    obtain ⟨_, h2⟩ := get_envOf vs 0 t v hv
    have h2' : (firsts vs)[t]? = some v.1 := by simpa using h2
    have hlt := (List.getElem?_eq_some_iff.1 h2').1
    simp only
    rw [Array.getElem?_append_left (by simpa using hlt)]
    simpa using h2'
  refine calls_of_wp_defers hf hb (WD_sound hm c _ w _ h _ _ hsub (fun x e' w' a' h1 h3 => ?_) (fun g args d x e' w' a' h1 hi ⟨fv, cap, ht⟩ h3 => ?_))
  · have key : answer P ty fn R e' w' → Leaves P fn a'.tmps R' a'.defers .returning w' := fun h1 => by
      rw [h3.defers]
      exact out _ _ _ _ h3 h1
    cases x with
    | n => exact key h1
    | r => exact key h1
    | x i => exact h1.elim
    | g i => exact h1.elim
  · have key : (CallsD P g args .returning w' fun en u w'' => (∃ v, en = .returned v) ∧ u = .returning ∧ answer P ty fn R e' w'') → Leaves P fn a'.tmps R' a'.defers .returning w' := fun h1 => by
      rw [h3.defers]
      obtain ⟨dt, da⟩ := d
      simp only at ht
      subst ht
      refine leaves_cons (by simp) (pureRun_spec hi w') (h1.mono fun en u w'' ⟨⟨v, hv⟩, hu, ha⟩ => ?_)
      subst hv hu
      exact out _ _ _ _ h3 ha
    cases x with
    | n => exact key h1
    | r => exact key h1
    | x i => exact h1.elim
    | g i => exact h1.elim
end Vc

/- The closure that a function defers, walked where nothing panics: operations that ask nothing of the world, and recover. No condition: for all programs. -/
set_option linter.unusedVariables false
namespace Vc
open Go
section
variable {P : Program} {ops : Array Oper} {Q : Exit → Act → List Frame → World → Prop}
/-- An operation that asks nothing of the world. -/
def stepS (P : Program) (ops : Array Oper) (i : Nat) (a : Act) : Option Act := match ops[i]? with
  | none => none
  | some o => match Region.wanted o (yielded ops a.tmps) with
    | false => none
    | true => match pureRun P (execOp a.eval o) with
      | some (.value v) => some (a.put o.dst v)
      | _ => none
def stepsS (P : Program) (ops : Array Oper) : List Nat → Act → Option Act
  | [], a => some a
  | i :: r, a => match stepS P ops i a with
    | some a' => stepsS P ops r a'
    | none => none
theorem stepS_spec {i : Nat} {a a' : Act} (h : stepS P ops i a = some a') {rest : List Nat} {cs : List Frame} {w : World} (hq : wpOpsS P ops Q rest a' cs w) : wpOpsS P ops Q (i :: rest) a cs w := by
  unfold stepS at h
  unfold wpOpsS
  split at h
  · cases h
  rename_i o ho
  simp only [ho]
  split at h
  · cases h
  rename_i hw
  rw [if_pos hw]
  split at h
  · rename_i v hv
    cases h
    rw [pureRun_spec hv w]
    exact hq
  · cases h
theorem stepsS_spec : ∀ {l : List Nat} {a a' : Act} (h : stepsS P ops l a = some a') {cs : List Frame} {w : World} (hq : Q .normal a' cs w), wpOpsS P ops Q l a cs w
  | [], a, a', h, cs, w, hq => by cases h; exact hq
  | i :: r, a, a', h, cs, w, hq => by
    simp only [stepsS] at h
    split at h
    · rename_i b hb
      exact stepS_spec hb (stepsS_spec h hq)
    · cases h
/-- recover. -/
theorem recS_spec {i : Nat} {o : Oper} {ct : Array TypeId} (hi : ops[i]? = some o) (ho : o.op = .call ⟨.builtin .recover, #[], ct⟩) (hg : o.guard = none) {rest : List Nat} {a a' : Act} {cs cs' : List Frame} {w : World}
    (h : (match recoverD cs with | some (v, cs'') => a' = a.put o.dst v ∧ cs' = cs'' | none => a' = a.put o.dst .nilIface ∧ cs' = cs)) (hq : wpOpsS P ops Q rest a' cs' w) : wpOpsS P ops Q (i :: rest) a cs w := by
  unfold wpOpsS
  simp only [hi]
  rw [if_pos (by simp [Region.wanted, hg])]
  have hr : (execOp a.eval o).run P w = .ok .recover w := by
    simp [execOp, ho, resolve]
    rfl
  rw [hr]
  simp only
  cases hc : recoverD cs with
  | none =>
    simp only [hc] at h
    obtain ⟨rfl, rfl⟩ := h
    exact hq
  | some p =>
    obtain ⟨v, cs''⟩ := p
    simp only [hc] at h
    obtain ⟨rfl, rfl⟩ := h
    exact hq
end
end Vc

/- Formulas of 1 Go functions of this seat (written by a program of the author's, vcgen.py), and that each is enough for the call. No condition. -/
set_option linter.unusedVariables false
namespace Go.Proofs.YtaaimcbicpgjoaaGreatDoor
open Go Vc Go.Proofs
set_option maxRecDepth 100000
/-- pack.Read -/
def vc_pack_Read (x0 : ByteArray) (x1 : Int) (w : World) (R : Value → World → Prop) : Prop :=
 ∀ w1 : World,
 (w1 = World.alloc w (Obj.cells (Array.mk [Value.int IntKind.i64 0, Value.int IntKind.i64 0, Value.int IntKind.i64 0, Value.string (ByteArray.mk (Array.mk [])), Value.int IntKind.i64 0, Value.string (ByteArray.mk (Array.mk [])), Value.int IntKind.u32 0]) 33) →
 ∀ w2 : World,
 (w2 = World.alloc w1 (Obj.cells (Array.mk [Value.int IntKind.i64 0]) 23) →
 (((decide (x1 < 12) = true →
 ∃ w3 : World, (Sem.run Tryz.prog (storeVar 33 (Addr.mk (Array.size (World.heap w)) 0 none) (Value.agg (Array.mk [Value.int IntKind.i64 0, Value.int IntKind.i64 0, Value.int IntKind.i64 0, Value.string (ByteArray.mk (Array.mk [])), Value.int IntKind.i64 0, Value.string (ByteArray.mk (Array.mk [])), Value.int IntKind.u32 0]))) w2 = Result.ok PUnit.unit w3 ∧
 (Wr w3 (Addr.mk (Array.size (World.heap w1)) 0 none) ∧
 ∀ w4 : World,
 (w4 = World.setCell w3 (Addr.mk (Array.size (World.heap w1)) 0 none) (Value.int IntKind.i64 1) →
 ∃ n5 : Int, ∃ n6 : Int, ∃ n7 : Int, ∃ s8 : ByteArray, ∃ n9 : Int, ∃ s10 : ByteArray, ∃ n11 : Int, (Sem.run Tryz.prog (loadVar 33 (Addr.mk (Array.size (World.heap w)) 0 none)) w4 = Result.ok (Value.agg (Array.mk [Value.int IntKind.i64 n5, Value.int IntKind.i64 n6, Value.int IntKind.i64 n7, Value.string s8, Value.int IntKind.i64 n9, Value.string s10, Value.int IntKind.u32 n11])) w4 ∧
 ∃ n12 : Int, (Sem.run Tryz.prog (loadVar 23 (Addr.mk (Array.size (World.heap w1)) 0 none)) w4 = Result.ok (Value.int IntKind.i64 n12) w4 ∧
 R (Value.tuple (Array.mk [Value.agg (Array.mk [Value.int IntKind.i64 n5, Value.int IntKind.i64 n6, Value.int IntKind.i64 n7, Value.string s8, Value.int IntKind.i64 n9, Value.string s10, Value.int IntKind.u32 n11]), Value.int IntKind.i64 n12])) w4))))))) ∧
 (decide (x1 < 12) = false →
 (((decide (x1 > IntKind.wrap IntKind.i64 ((↑(ByteArray.size x0) : Int) - 20)) = true →
 ∃ w13 : World, (Sem.run Tryz.prog (storeVar 33 (Addr.mk (Array.size (World.heap w)) 0 none) (Value.agg (Array.mk [Value.int IntKind.i64 0, Value.int IntKind.i64 0, Value.int IntKind.i64 0, Value.string (ByteArray.mk (Array.mk [])), Value.int IntKind.i64 0, Value.string (ByteArray.mk (Array.mk [])), Value.int IntKind.u32 0]))) w2 = Result.ok PUnit.unit w13 ∧
 (Wr w13 (Addr.mk (Array.size (World.heap w1)) 0 none) ∧
 ∀ w14 : World,
 (w14 = World.setCell w13 (Addr.mk (Array.size (World.heap w1)) 0 none) (Value.int IntKind.i64 1) →
 ∃ n15 : Int, ∃ n16 : Int, ∃ n17 : Int, ∃ s18 : ByteArray, ∃ n19 : Int, ∃ s20 : ByteArray, ∃ n21 : Int, (Sem.run Tryz.prog (loadVar 33 (Addr.mk (Array.size (World.heap w)) 0 none)) w14 = Result.ok (Value.agg (Array.mk [Value.int IntKind.i64 n15, Value.int IntKind.i64 n16, Value.int IntKind.i64 n17, Value.string s18, Value.int IntKind.i64 n19, Value.string s20, Value.int IntKind.u32 n21])) w14 ∧
 ∃ n22 : Int, (Sem.run Tryz.prog (loadVar 23 (Addr.mk (Array.size (World.heap w1)) 0 none)) w14 = Result.ok (Value.int IntKind.i64 n22) w14 ∧
 R (Value.tuple (Array.mk [Value.agg (Array.mk [Value.int IntKind.i64 n15, Value.int IntKind.i64 n16, Value.int IntKind.i64 n17, Value.string s18, Value.int IntKind.i64 n19, Value.string s20, Value.int IntKind.u32 n21]), Value.int IntKind.i64 n22])) w14))))))) ∧
 (decide (x1 > IntKind.wrap IntKind.i64 ((↑(ByteArray.size x0) : Int) - 20)) = false →
 ((0 ≤ IntKind.wrap IntKind.i64 ((↑(ByteArray.size x0) : Int) - 20) ∧
 IntKind.wrap IntKind.i64 ((↑(ByteArray.size x0) : Int) - 20) ≤ (↑(ByteArray.size x0) : Int)) ∧
 ∀ w23 : World,
 (w23 = World.alloc w2 (Obj.cells (Array.mk [Value.string (ByteArray.extract x0 0 (Int.toNat (IntKind.wrap IntKind.i64 ((↑(ByteArray.size x0) : Int) - 20)))), Value.int IntKind.i64 x1]) 87) →
 (Wr w23 (Addr.mk (Array.size (World.heap w)) 0 none) ∧
 ∀ w24 : World,
 (w24 = World.setCell w23 (Addr.mk (Array.size (World.heap w)) 0 none) (Value.int IntKind.i64 x1) →
 Calls Tryz.prog (37 : Nat) (Array.mk [Value.pointer (some (Addr.mk (Array.size (World.heap w2)) 0 none))]) (w24) (fun e25 w26 =>
 ∃ n27 : Int, ∃ n28 : Int, (e25 = Ending.returned (Value.tuple (Array.mk [Value.int IntKind.i64 n27, Value.int IntKind.i64 n28])) ∧
 (Wr w26 (Addr.mk (Array.size (World.heap w)) 2 none) ∧
 ∀ w29 : World,
 (w29 = World.setCell w26 (Addr.mk (Array.size (World.heap w)) 2 none) (Value.int IntKind.i64 n27) →
 ∃ I30 : World → Prop, ((∃ I31 : Bool → World → Prop, (((((n27 == 1) = true →
 I31 (n27 == 1) w29)) ∧
 ((n27 == 1) = false →
 ((((n27 == 2) = true →
 I31 (n27 == 2) w29)) ∧
 ((n27 == 2) = false →
 ((((n27 == 3) = true →
 I31 (n27 == 3) w29)) ∧
 ((n27 == 3) = false →
 I31 (n27 == 4) w29)))))) ∧
 ∀ b32 : Bool,
 ∀ w33 : World,
 (I31 b32 w33 →
 (((b32 = true →
 I30 w33)) ∧
 (b32 = false →
 ((((n27 == 6) = true →
 Calls Tryz.prog (38 : Nat) (Array.mk [Value.pointer (some (Addr.mk (Array.size (World.heap w2)) 0 none))]) (w33) (fun e34 w35 =>
 ∃ n36 : Int, (e34 = Ending.returned (Value.int IntKind.i64 n36) ∧
 (((decide (n36 < 1) = true →
 False)) ∧
 (decide (n36 < 1) = false →
 (((decide (n36 > IntKind.wrap IntKind.i64 (x1 - 12)) = true →
 False)) ∧
 (decide (n36 > IntKind.wrap IntKind.i64 (x1 - 12)) = false →
 (Wr w35 (Addr.mk (Array.size (World.heap w)) 4 none) ∧
 ∀ w37 : World,
 (w37 = World.setCell w35 (Addr.mk (Array.size (World.heap w)) 4 none) (Value.int IntKind.i64 (IntKind.wrap IntKind.i64 (x1 - n36))) →
 I30 w37)))))))))) ∧
 ((n27 == 6) = false →
 ((((n27 == 7) = true →
 ∃ I38 : World → Prop, ((∃ n39 : Int, (World.cell? w33 (Addr.mk (Array.size (World.heap w2)) 1 none) = some (Value.int IntKind.i64 n39) ∧
 (((decide (IntKind.wrap IntKind.i64 ((↑(ByteArray.size (ByteArray.extract x0 0 (Int.toNat (IntKind.wrap IntKind.i64 ((↑(ByteArray.size x0) : Int) - 20))))) : Int) - n39) < 20) = true →
 False)) ∧
 (decide (IntKind.wrap IntKind.i64 ((↑(ByteArray.size (ByteArray.extract x0 0 (Int.toNat (IntKind.wrap IntKind.i64 ((↑(ByteArray.size x0) : Int) - 20))))) : Int) - n39) < 20) = false →
 I38 w33)))) ∧
 ∀ w40 : World,
 (I38 w40 →
 ∀ w41 : World,
 (Drew w40 w41 →
 ∃ I42 : World → Prop, (I42 w41 ∧
 ∃ n43 : Int, ((∀ w44 : World,
 (I42 w44 →
 World.cell? w44 (Addr.mk (Array.size (World.heap w2)) 1 none) = some (Value.int IntKind.i64 n43))) ∧
 ∃ n45 : Int, ((∀ w46 : World,
 (I42 w46 →
 World.cell? w46 (Addr.mk (Array.size (World.heap w2)) 1 none) = some (Value.int IntKind.i64 n45))) ∧
 ((0 ≤ n43 ∧
 (n43 ≤ IntKind.wrap IntKind.i64 (n45 + 20) ∧
 IntKind.wrap IntKind.i64 (n45 + 20) ≤ (↑(ByteArray.size (ByteArray.extract x0 0 (Int.toNat (IntKind.wrap IntKind.i64 ((↑(ByteArray.size x0) : Int) - 20))))) : Int))) ∧
 Calls Tryz.prog (9 : Nat) (Array.mk [Value.string (ByteArray.extract (ByteArray.extract x0 0 (Int.toNat (IntKind.wrap IntKind.i64 ((↑(ByteArray.size x0) : Int) - 20)))) (Int.toNat n43) (Int.toNat (IntKind.wrap IntKind.i64 (n45 + 20))))]) (w41) (fun e47 w48 =>
 ∃ s49 : ByteArray, (e47 = Ending.returned (Value.string s49) ∧
 (I42 w48 ∧
 (Wr w48 (Addr.mk (Array.size (World.heap w)) 5 none) ∧
 ∀ w50 : World,
 (w50 = World.setCell w48 (Addr.mk (Array.size (World.heap w)) 5 none) (Value.string s49) →
 ∃ n51 : Int, (World.cell? w50 (Addr.mk (Array.size (World.heap w2)) 1 none) = some (Value.int IntKind.i64 n51) ∧
 (Wr w50 (Addr.mk (Array.size (World.heap w2)) 1 none) ∧
 ∀ w52 : World,
 (w52 = World.setCell w50 (Addr.mk (Array.size (World.heap w2)) 1 none) (Value.int IntKind.i64 (IntKind.wrap IntKind.i64 (n51 + 20))) →
 I30 w52))))))))))))))))) ∧
 ((n27 == 7) = false →
 False))))))))) ∧
 ∀ w53 : World,
 (I30 w53 →
 ∃ I54 : World → Prop, ((((decide (n28 > 65000) = true →
 False)) ∧
 (decide (n28 > 65000) = false →
 I54 w53)) ∧
 ∀ w55 : World,
 (I54 w55 →
 ∃ n56 : Int, (World.cell? w55 (Addr.mk (Array.size (World.heap w2)) 1 none) = some (Value.int IntKind.i64 n56) ∧
 Calls Tryz.prog (39 : Nat) (Array.mk [Value.string (ByteArray.extract x0 0 (Int.toNat (IntKind.wrap IntKind.i64 ((↑(ByteArray.size x0) : Int) - 20)))), Value.int IntKind.i64 n56, Value.int IntKind.i64 n28]) (w55) (fun e57 w58 =>
 ∃ s59 : ByteArray, ∃ n60 : Int, ∃ n61 : Int, (e57 = Ending.returned (Value.tuple (Array.mk [Value.string s59, Value.int IntKind.i64 n60, Value.int IntKind.i64 n61])) ∧
 (Wr w58 (Addr.mk (Array.size (World.heap w1)) 0 none) ∧
 ∀ w62 : World,
 (w62 = World.setCell w58 (Addr.mk (Array.size (World.heap w1)) 0 none) (Value.int IntKind.i64 n61) →
 ∃ I63 : World → Prop, ((∃ n64 : Int, (World.cell? w62 (Addr.mk (Array.size (World.heap w1)) 0 none) = some (Value.int IntKind.i64 n64) ∧
 ((((n64 == 2) = true →
 (Wr w62 (Addr.mk (Array.size (World.heap w1)) 0 none) ∧
 ∀ w65 : World,
 (w65 = World.setCell w62 (Addr.mk (Array.size (World.heap w1)) 0 none) (Value.int IntKind.i64 3) →
 I63 w65)))) ∧
 ((n64 == 2) = false →
 ∃ n66 : Int, (World.cell? w62 (Addr.mk (Array.size (World.heap w1)) 0 none) = some (Value.int IntKind.i64 n66) ∧
 ((((n66 == 0) = true →
 (((decide ((↑(ByteArray.size s59) : Int) < n28) = true →
 (Wr w62 (Addr.mk (Array.size (World.heap w1)) 0 none) ∧
 ∀ w67 : World,
 (w67 = World.setCell w62 (Addr.mk (Array.size (World.heap w1)) 0 none) (Value.int IntKind.i64 3) →
 I63 w67)))) ∧
 (decide ((↑(ByteArray.size s59) : Int) < n28) = false →
 I63 w62)))) ∧
 ((n66 == 0) = false →
 I63 w62))))))) ∧
 ∀ w68 : World,
 (I63 w68 →
 ∃ I69 : World → Prop, ((∃ n70 : Int, (World.cell? w68 (Addr.mk (Array.size (World.heap w1)) 0 none) = some (Value.int IntKind.i64 n70) ∧
 ((((n70 != 0) = true →
 ∃ n71 : Int, (World.cell? w68 (Addr.mk (Array.size (World.heap w1)) 0 none) = some (Value.int IntKind.i64 n71) ∧
 False))) ∧
 ((n70 != 0) = false →
 I69 w68)))) ∧
 ∀ w72 : World,
 (I69 w72 →
 (Wr w72 (Addr.mk (Array.size (World.heap w)) 3 none) ∧
 ∀ w73 : World,
 (w73 = World.setCell w72 (Addr.mk (Array.size (World.heap w)) 3 none) (Value.string s59) →
 ∃ n74 : Int, (World.cell? w73 (Addr.mk (Array.size (World.heap w2)) 1 none) = some (Value.int IntKind.i64 n74) ∧
 (Wr w73 (Addr.mk (Array.size (World.heap w)) 1 none) ∧
 ∀ w75 : World,
 (w75 = World.setCell w73 (Addr.mk (Array.size (World.heap w)) 1 none) (Value.int IntKind.i64 (IntKind.wrap IntKind.i64 (n74 + n60))) →
 ∃ n76 : Int, (World.cell? w75 (Addr.mk (Array.size (World.heap w)) 1 none) = some (Value.int IntKind.i64 n76) ∧
 ((0 ≤ x1 ∧
 (x1 ≤ n76 ∧
 n76 ≤ (↑(ByteArray.size (ByteArray.extract x0 0 (Int.toNat (IntKind.wrap IntKind.i64 ((↑(ByteArray.size x0) : Int) - 20))))) : Int))) ∧
 Calls Tryz.prog (16 : Nat) (Array.mk [Value.string (ByteArray.extract (ByteArray.extract x0 0 (Int.toNat (IntKind.wrap IntKind.i64 ((↑(ByteArray.size x0) : Int) - 20)))) (Int.toNat x1) (Int.toNat n76))]) (w75) (fun e77 w78 =>
 ∃ n79 : Int, (e77 = Ending.returned (Value.int IntKind.u32 n79) ∧
 (Wr w78 (Addr.mk (Array.size (World.heap w)) 6 none) ∧
 ∀ w80 : World,
 (w80 = World.setCell w78 (Addr.mk (Array.size (World.heap w)) 6 none) (Value.int IntKind.u32 n79) →
 ∃ n81 : Int, ∃ n82 : Int, ∃ n83 : Int, ∃ s84 : ByteArray, ∃ n85 : Int, ∃ s86 : ByteArray, ∃ n87 : Int, (Sem.run Tryz.prog (loadVar 33 (Addr.mk (Array.size (World.heap w)) 0 none)) w80 = Result.ok (Value.agg (Array.mk [Value.int IntKind.i64 n81, Value.int IntKind.i64 n82, Value.int IntKind.i64 n83, Value.string s84, Value.int IntKind.i64 n85, Value.string s86, Value.int IntKind.u32 n87])) w80 ∧
 ∃ w88 : World, (Sem.run Tryz.prog (storeVar 33 (Addr.mk (Array.size (World.heap w)) 0 none) (Value.agg (Array.mk [Value.int IntKind.i64 n81, Value.int IntKind.i64 n82, Value.int IntKind.i64 n83, Value.string s84, Value.int IntKind.i64 n85, Value.string s86, Value.int IntKind.u32 n87]))) w80 = Result.ok PUnit.unit w88 ∧
 (Wr w88 (Addr.mk (Array.size (World.heap w1)) 0 none) ∧
 ∀ w89 : World,
 (w89 = World.setCell w88 (Addr.mk (Array.size (World.heap w1)) 0 none) (Value.int IntKind.i64 0) →
 CallsD Tryz.prog (36 : Nat) (Array.mk [Value.pointer (some (Addr.mk (Array.size (World.heap w)) 0 none)), Value.pointer (some (Addr.mk (Array.size (World.heap w1)) 0 none))]) (FrameMode.returning) (w89) (fun e90 z91 w92 =>
 ((∃ v93 : Value, e90 = Ending.returned v93) ∧
 (z91 = FrameMode.returning ∧
 ∃ n94 : Int, ∃ n95 : Int, ∃ n96 : Int, ∃ s97 : ByteArray, ∃ n98 : Int, ∃ s99 : ByteArray, ∃ n100 : Int, (Sem.run Tryz.prog (loadVar 33 (Addr.mk (Array.size (World.heap w)) 0 none)) w92 = Result.ok (Value.agg (Array.mk [Value.int IntKind.i64 n94, Value.int IntKind.i64 n95, Value.int IntKind.i64 n96, Value.string s97, Value.int IntKind.i64 n98, Value.string s99, Value.int IntKind.u32 n100])) w92 ∧
 ∃ n101 : Int, (Sem.run Tryz.prog (loadVar 23 (Addr.mk (Array.size (World.heap w1)) 0 none)) w92 = Result.ok (Value.int IntKind.i64 n101) w92 ∧
 R (Value.tuple (Array.mk [Value.agg (Array.mk [Value.int IntKind.i64 n94, Value.int IntKind.i64 n95, Value.int IntKind.i64 n96, Value.string s97, Value.int IntKind.i64 n98, Value.string s99, Value.int IntKind.u32 n100]), Value.int IntKind.i64 n101])) w92)))))))))))))))))))))))))))))))))))))))))))))))
theorem vc_pack_Read_ok {x0 : ByteArray} {x1 : Int} {w : World} {R : Value → World → Prop} {R' : Ending → World → Prop} (h : vc_pack_Read x0 x1 w R) (hR : ∀ v w', R v w' → R' (.returned v) w') :
    Calls Tryz.prog 14 #[.string x0, .int .i64 x1] w R' :=
  calls_of_bodyD (vs := [(.string x0, false), (.int .i64 x1, false)]) (ty := ty) (ann := ⟨[(15, [(44, .bool)]), (23, []), (25, []), (27, []), (30, []), (32, [])], [], [(23, .held [(0, true), (1, true), (2, true), (3, true), (4, true), (5, true), (6, true), (7, true), (8, true), (9, true), (10, true), (11, false), (12, true), (13, false)])], []⟩) (c := Tryz.f14.body.getD .skip) (by kernel_rfl) Tryz.func14 (by kernel_rfl) (by kernel_rfl) (Eq.mp (by kernel_rfl) h) hR
end Go.Proofs.YtaaimcbicpgjoaaGreatDoor

/- pack.Read of an entry that is right. Conditions: the entry's data below 2048 bytes, the pack below a million. -/
set_option linter.unusedVariables false
namespace Go.Proofs.YtaaimcbicpgjoaaGreatDoor
open Go Vc SumM Go.Proofs

set_option maxRecDepth 100000 in
theorem pread_idle (p q : Addr) (w : World) :
    CallsD Tryz.prog F_pack_Read_1 #[.pointer (some p), .pointer (some q)] .returning w fun e u w' => e = .returned (.tuple #[]) ∧ u = .returning ∧ w' = w := by
  refine callsD_of_wpS Tryz.func36 rfl fun c₀ cs hu => ?_
  have hz : ({ c₀ with mode := .returning } : Frame) = c₀ := by cases c₀; simp only at hu; subst hu; rfl
  refine wpS_seq (wpS_region ?_)
  show wpOpsS _ _ _ [0, 1, 2, 3, 4, 5, 6] _ _ _
  refine recS_spec (a' := ⟨#[.pointer (some p), .pointer (some q), undef, undef, undef, .nilIface, undef, undef, undef, undef, undef, undef], []⟩) (cs' := c₀ :: cs) rfl rfl rfl ?_ ?_
  · rw [show recoverD (c₀ :: cs) = none by unfold recoverD; simp only [hu]]
    exact ⟨by kernel_rfl, rfl⟩
  refine stepsS_spec (a' := ⟨#[.pointer (some p), .pointer (some q), .int .i64 0, .bool false, .tuple #[.int .i64 0, .bool false], .nilIface, .tuple #[.int .i64 0, .bool false], .int .i64 0, .bool false, undef, undef, undef], []⟩) (by kernel_rfl) ?_
  refine wpS_seq (wpS_region ?_)
  show wpOpsS _ _ _ [0] _ _ _
  refine stepsS_spec (a' := ⟨#[.pointer (some p), .pointer (some q), .int .i64 0, .bool false, .tuple #[.int .i64 0, .bool false], .nilIface, .tuple #[.int .i64 0, .bool false], .int .i64 0, .bool false, .bool false, undef, undef], []⟩) (by kernel_rfl) ?_
  refine wpS_cond (t := false) (by kernel_rfl) ?_
  refine wpS_of_wp (wp_skip ?_)
  exact ⟨rfl, .returning, by rw [hz], .tuple #[], by kernel_rfl, rfl, rfl, rfl⟩
theorem pload_one {w : World} {a : Addr} {T : TypeId} {v : Value} (hu : pureRun Tryz.prog (isAgg T) = some false) (hc : w.cell? a = some v) : (loadVar T a).run Tryz.prog w = .ok v w := by
  unfold loadVar
  rw [Sem.run_bind, pureRun_spec hu w]
  simp [Result.andThen, hc]
theorem pone_set {w : World} {b : Nat} {v : Value} {T : TypeId} (h : w.heap[b]? = some (.cells #[v] T (0, 0))) (u : Value) : Wr w ⟨b, 0, none⟩ ∧ (w.setCell ⟨b, 0, none⟩ u).heap[b]? = some (.cells #[u] T (0, 0)) ∧ Fr (· = b) w (w.setCell ⟨b, 0, none⟩ u) :=
  ⟨wr_blk h (Nat.lt_succ_self 0), by rw [set_blk h]; rfl, Fr.set (· = b) w _ rfl⟩
theorem pone_cell {w : World} {b : Nat} {v : Value} {T : TypeId} (h : w.heap[b]? = some (.cells #[v] T (0, 0))) : w.cell? ⟨b, 0, none⟩ = some v := by rw [cell_blk h]; rfl
/-- An entry in memory. -/
def EntP (w : World) (A : Nat) (at_ next kd : Int) (d : ByteArray) (base : Int) (id : ByteArray) (crc : Int) : Prop := w.heap[A]? = some (.cells #[.int .i64 at_, .int .i64 next, .int .i64 kd, .string d, .int .i64 base, .string id, .int .u32 crc] T_pack_Entry (0, 0))
theorem EntP.load {w : World} {A : Nat} {at_ next kd base crc : Int} {d id : ByteArray} (h : EntP w A at_ next kd d base id crc) : (loadVar T_pack_Entry ⟨A, 0, none⟩).run Tryz.prog w = .ok (.agg #[.int .i64 at_, .int .i64 next, .int .i64 kd, .string d, .int .i64 base, .string id, .int .u32 crc]) w :=
  load_agg (vs := [.int .i64 at_, .int .i64 next, .int .i64 kd, .string d, .int .i64 base, .string id, .int .u32 crc]) (agg_of (by kernel_rfl)) (by kernel_rfl) fun k v hv => by rw [add_lit, Nat.zero_add, cell_blk h]; simpa using hv
theorem EntP.store {w : World} {A : Nat} {cs : Array Value} (h : w.heap[A]? = some (.cells cs T_pack_Entry (0, 0))) (hc : cs.size = 7) (at_ next kd base crc : Int) (d id : ByteArray) :
    ∃ w', (storeVar T_pack_Entry ⟨A, 0, none⟩ (.agg #[.int .i64 at_, .int .i64 next, .int .i64 kd, .string d, .int .i64 base, .string id, .int .u32 crc])).run Tryz.prog w = .ok () w' ∧ EntP w' A at_ next kd d base id crc ∧ Fr (· = A) w w' :=
  ⟨_, run_storeVar_row (P := Tryz.prog) w A T_pack_Entry T_pack_Entry _ #[.int .i64 at_, .int .i64 next, .int .i64 kd, .string d, .int .i64 base, .string id, .int .u32 crc] h (by kernel_rfl) (by rw [hc]; rfl) (by simp [Value.oneCell']), setRow_heap w A _ #[.int .i64 at_, .int .i64 next, .int .i64 kd, .string d, .int .i64 base, .string id, .int .u32 crc] T_pack_Entry (0, 0) h, setRow_frI (· = A) w A _ rfl⟩
/-- What an entry bears besides. -/
def ExtraP (F : Nat) (kd : Nat) (ex : List UInt8) : Prop := (1 ≤ kd ∧ kd ≤ 4 ∧ ex = []) ∨ (kd = 6 ∧ ∃ off, ex = backL off ∧ 1 ≤ off ∧ off + 12 ≤ F) ∨ (kd = 7 ∧ ex.length = 20)
def entL (kd : Nat) (ex st d : List UInt8) : List UInt8 := headL kd d.length ++ (ex ++ frameS st d)
set_option maxHeartbeats 1600000 in
theorem pread_spec {F T : List UInt8} {kd : Nat} {ex st : List UInt8} {D s : ByteArray} (hs : s.data.toList = F ++ (entL kd ex st D.data.toList ++ T)) (hF : 12 ≤ F.length) (hT : 20 ≤ T.length) (hD : D.size < 2048)
    (hst : DefM.Stream st D.data.toList) (hss : s.size ≤ 1000000) (hex : ExtraP F.length kd ex) (w : World) :
    Calls Tryz.prog F_pack_Read #[.string s, .int .i64 (F.length : Int)] w fun e w' => (∃ (base : Int) (id : ByteArray), e = .returned (.tuple #[.agg #[.int .i64 (F.length : Int), .int .i64 ((F.length + (entL kd ex st D.data.toList).length : Nat) : Int), .int .i64 (kd : Int), .string D, .int .i64 base, .string id,
      .int .u32 ((crcW (entL kd ex st D.data.toList)).toNat : Int)], .int .i64 0])) ∧ Fr (fun _ => False) w w' := by
  refine vc_pack_Read_ok (R := fun v w' => (∃ (base : Int) (id : ByteArray), v = .tuple #[.agg #[.int .i64 (F.length : Int), .int .i64 ((F.length + (entL kd ex st D.data.toList).length : Nat) : Int), .int .i64 (kd : Int), .string D, .int .i64 base, .string id,
      .int .u32 ((crcW (entL kd ex st D.data.toList)).toNat : Int)], .int .i64 0]) ∧ Fr (fun _ => False) w w') ?_ (fun v w' ⟨⟨b, i, h1⟩, h2⟩ => ⟨⟨b, i, by rw [h1]⟩, h2⟩)
  have hDl := bs_len D
  have hsl := congrArg List.length hs
  rw [bs_len, List.length_append, List.length_append] at hsl
  obtain ⟨T', hT'⟩ : ∃ T', T.take (T.length - 20) = T' := ⟨_, rfl⟩
  obtain ⟨ent, hent⟩ : ∃ ent, entL kd ex st D.data.toList = ent := ⟨_, rfl⟩
  rw [hent] at hs hsl ⊢
  have hkd : kd < 8 := by rcases hex with ⟨h1, h2, _⟩ | ⟨h, _⟩ | ⟨h, _⟩ <;> omega
  have he20 : IntKind.i64.wrap ((s.size : Int) - 20) = ((s.size - 20 : Nat) : Int) := by rw [wrap_i64 (by omega) (by omega)]; omega
  intro w1 h1 w2 h2
  rw [he20, Int.toNat_natCast]
  obtain ⟨body, hbody⟩ : ∃ body, s.extract 0 (s.size - 20) = body := ⟨_, rfl⟩
  have hbl : body.data.toList = F ++ (ent ++ T') := by
    rw [← hbody, bs_head, hs, ← List.append_assoc, List.take_append, List.take_of_length_le (by rw [List.length_append]; omega), ← hT', List.append_assoc]
    congr 3
    rw [List.length_append]; omega
  have hTl : T'.length = T.length - 20 := by rw [← hT', List.length_take]; omega
  have hbs : body.size = F.length + ent.length + T'.length := by rw [← bs_len, hbl, List.length_append, List.length_append]; omega
  rw [hbody]
  have f1 : Fr (fun _ => False) w w1 := by rw [h1]; exact .alloc _ _ _
  have f2 : Fr (fun _ => False) w1 w2 := by rw [h2]; exact .alloc _ _ _
  have s1 : w1.heap.size = w.heap.size + 1 := by rw [h1]; simp
  have s2 : w2.heap.size = w.heap.size + 2 := by rw [h2]; simp [s1]
  have a2 : EntP w2 w.heap.size 0 0 0 ⟨#[]⟩ 0 ⟨#[]⟩ 0 := f2.keep (by rw [h1]; exact alloc_new _ _) (by simp)
  have b2 : w2.heap[w1.heap.size]? = some (.cells #[.int .i64 0] T_api_Errno (0, 0)) := by rw [h2]; exact alloc_new _ _
  have g2 := f1.trans' f2
  clear h1 h2 f1 f2
  rw [s1] at b2 ⊢
  refine ⟨fun hb => absurd (of_decide_eq_true hb) (by omega), fun _ => ⟨fun hb => absurd (of_decide_eq_true hb) (by omega), fun _ => ⟨⟨by omega, by omega⟩, fun w23 h23 => ?_⟩⟩⟩
  have f23 : Fr (fun _ => False) w2 w23 := by rw [h23]; exact .alloc _ _ _
  have r23 : RdP w23 w2.heap.size body (ent ++ T') F.length := ⟨by rw [h23]; exact alloc_new _ _, by rw [hbl, List.drop_left], by omega⟩
  have a23 : EntP w23 w.heap.size 0 0 0 ⟨#[]⟩ 0 ⟨#[]⟩ 0 := f23.keep a2 (by simp)
  have b23 := f23.keep b2 (by simp)
  have g23 := g2.trans' f23
  clear h23 a2 b2 g2 f23
  rw [s2] at r23 ⊢
  clear s1 s2
  generalize hA : w.heap.size = A at *
  refine ⟨wr_blk a23 (Nat.lt_of_lt_of_eq (by decide : 0 < 7) rfl), fun w24 h24 => ?_⟩
  have a24 : EntP w24 A (F.length : Int) 0 0 ⟨#[]⟩ 0 ⟨#[]⟩ 0 := by unfold EntP; rw [h24, set_blk a23]; rfl
  have f24 : Fr (· = A) w23 w24 := by rw [h24]; exact Fr.set (· = A) w23 (a := ⟨A, 0, none⟩) _ rfl
  have r24 := r23.keep f24 (by omega)
  have b24 := f24.keep b23 (by omega)
  have g24 : Fr (fun _ => False) w w24 := g23.trans f24 fun q hq e => by omega
  clear h24 a23 r23 b23 g23 f24
  have hhead : ent ++ T' = headL kd D.size ++ (ex ++ (frameS st D.data.toList ++ T')) := by
    rw [← hent]
    unfold entL
    rw [hDl]
    simp only [List.append_assoc]
  rw [hhead] at r24
  refine (phead_spec hkd hD r24 (by omega)).mono ?_
  rintro e w26 ⟨rfl, r26, f26⟩
  have a26 : EntP w26 A (F.length : Int) 0 0 ⟨#[]⟩ 0 ⟨#[]⟩ 0 := f26.keep a24 (by omega)
  have b26 := f26.keep b24 (by omega)
  have g26 : Fr (fun _ => False) w w26 := g24.trans f26 fun q hq e => by omega
  refine ⟨_, _, rfl, wr_blk a26 (Nat.lt_of_lt_of_eq (by decide : 2 < 7) rfl), fun w29 h29 => ?_⟩
  have a29 : EntP w29 A (F.length : Int) 0 (kd : Int) ⟨#[]⟩ 0 ⟨#[]⟩ 0 := by unfold EntP; rw [h29, set_blk a26]; rfl
  have f29 : Fr (· = A) w26 w29 := by rw [h29]; exact Fr.set (· = A) w26 (a := ⟨A, 2, none⟩) _ rfl
  have r29 := r26.keep f29 (by omega)
  have b29 := f29.keep b26 (by omega)
  have g29 : Fr (fun _ => False) w w29 := g26.trans f29 fun q hq e => by omega
  clear h29 a26 r26 b26 g26 f29 f26 a24 b24 g24 r24
  obtain ⟨hl, hhl⟩ : ∃ hl, (headL kd D.size).length = hl := ⟨_, rfl⟩
  rw [hhl] at r29
  have hel : ent.length = hl + ex.length + (st.length + 6) := by
    rw [← hent]
    unfold entL frameS
    rw [hDl]
    simp only [List.length_append, hhl, bigB_length, List.length_cons, List.length_nil]
    omega
  refine ⟨fun w' => ∃ (base : Int) (id : ByteArray), RdP w' (A + 2) body (frameS st D.data.toList ++ T') (F.length + hl + ex.length) ∧ EntP w' A (F.length : Int) 0 (kd : Int) ⟨#[]⟩ base id 0 ∧ w'.heap[A + 1]? = some (.cells #[.int .i64 0] T_api_Errno (0, 0)) ∧ Fr (fun _ => False) w w',
    ⟨fun b w' => (b = true → kd ≤ 4) ∧ (b = false → ¬ kd ≤ 4) ∧ w' = w29, ⟨fun h => ?_, fun h => ⟨fun h' => ?_, fun h' => ⟨fun h'' => ?_, fun h'' => ?_⟩⟩⟩, ?_⟩, ?_⟩
  · have : (kd : Int) = 1 := by simpa using h
    rw [h]
    exact ⟨fun _ => by omega, fun h => (by cases h), rfl⟩
  · have : (kd : Int) = 2 := by simpa using h'
    rw [h']
    exact ⟨fun _ => by omega, fun h => (by cases h), rfl⟩
  · have : (kd : Int) = 3 := by simpa using h''
    rw [h'']
    exact ⟨fun _ => by omega, fun h => (by cases h), rfl⟩
  · have k1 : ¬ (kd : Int) = 1 := by simpa using h
    have k2 : ¬ (kd : Int) = 2 := by simpa using h'
    have k3 : ¬ (kd : Int) = 3 := by simpa using h''
    have k0 : 1 ≤ kd := by rcases hex with ⟨h1, _, _⟩ | ⟨h, _⟩ | ⟨h, _⟩ <;> omega
    refine ⟨fun h => ?_, fun h => ?_, rfl⟩
    · have : (kd : Int) = 4 := by simpa using h
      omega
    · have : ¬ (kd : Int) = 4 := by simpa using h
      omega
  · rintro b w33 ⟨hbt, hbf, hw⟩
    replace hw := hw.symm
    subst hw
    refine ⟨fun hb => ?_, fun hb => ⟨fun h6 => ?_, fun h6 => ⟨fun h7 => ?_, fun h7 => ?_⟩⟩⟩
    · have hk4 := hbt hb
      have hex0 : ex = [] := by rcases hex with ⟨_, _, h⟩ | ⟨h, _⟩ | ⟨h, _⟩ <;> first | exact h | omega
      refine ⟨0, ⟨#[]⟩, ?_, a29, b29, g29⟩
      rw [hex0] at r29 ⊢
      exact r29
    · have h6 : (kd : Int) = 6 := by simpa using h6
      obtain ⟨off, hoff, ho1, ho2⟩ : ∃ off, ex = backL off ∧ 1 ≤ off ∧ off + 12 ≤ F.length := by
        rcases hex with ⟨_, h, _⟩ | ⟨_, h⟩ | ⟨h, _⟩
        · omega
        · exact h
        · omega
      rw [hoff] at r29 hel ⊢
      refine (pback_spec (by omega) r29 (by omega)).mono ?_
      rintro e w35 ⟨rfl, r35, f35⟩
      have a35 : EntP w35 A (F.length : Int) 0 (kd : Int) ⟨#[]⟩ 0 ⟨#[]⟩ 0 := f35.keep a29 (by omega)
      have e12 : IntKind.i64.wrap ((F.length : Int) - 12) = ((F.length - 12 : Nat) : Int) := by rw [wrap_i64 (by omega) (by omega)]; omega
      rw [e12]
      refine ⟨_, rfl, fun hb => absurd (of_decide_eq_true hb) (by omega), fun _ => ⟨fun hb => absurd (of_decide_eq_true hb) (by omega), fun _ => ⟨wr_blk a35 (Nat.lt_of_lt_of_eq (by decide : 4 < 7) rfl), fun w37 h37 => ?_⟩⟩⟩
      have f37 : Fr (· = A) w35 w37 := by rw [h37]; exact Fr.set (· = A) w35 (a := ⟨A, 4, none⟩) _ rfl
      exact ⟨_, ⟨#[]⟩, r35.keep f37 (by omega), by unfold EntP; rw [h37, set_blk a35]; rfl, f37.keep (f35.keep b29 (by omega)) (by omega), (g29.trans f35 fun q hq e => by omega).trans f37 fun q hq e => by omega⟩
    · have h7 : (kd : Int) = 7 := by simpa using h7
      have hx20 : ex.length = 20 := by
        rcases hex with ⟨_, h, _⟩ | ⟨h, _⟩ | ⟨_, h⟩
        · omega
        · omega
        · exact h
      have e1 : IntKind.i64.wrap ((body.size : Int) - ((F.length + hl : Nat) : Int)) = ((body.size - (F.length + hl) : Nat) : Int) := by rw [wrap_i64 (by omega) (by omega)]; omega
      have e2 : IntKind.i64.wrap (((F.length + hl : Nat) : Int) + 20) = ((F.length + hl + 20 : Nat) : Int) := by rw [wrap_i64 (by omega) (by omega)]; omega
      refine ⟨fun w' => w' = w29, ⟨_, r29.c1, fun hb => ?_, fun _ => rfl⟩, ?_⟩
      · rw [e1] at hb
        exact absurd (of_decide_eq_true hb) (by omega)
      rintro w40 hw
      replace hw := hw.symm
      subst hw
      intro w41 d41
      have f41 : Fr (fun _ => False) w29 w41 := .drew _ d41
      have r41 := r29.keep f41 (by simp)
      have a41 : EntP w41 A (F.length : Int) 0 (kd : Int) ⟨#[]⟩ 0 ⟨#[]⟩ 0 := f41.keep a29 (by simp)
      refine ⟨fun w' => w'.cell? ⟨A + 2, 1, none⟩ = some (.int .i64 ((F.length + hl : Nat) : Int)), r41.c1, _, fun w44 h => h, _, fun w46 h => h, ?_⟩
      rw [e2]
      refine ⟨⟨by omega, by omega, by omega⟩, (hex_spec _ (by rw [ByteArray.size_extract]; omega) w41).mono ?_⟩
      rintro e w48 ⟨rfl, f48⟩
      have r48 := r41.keep f48 (by simp)
      have a48 : EntP w48 A (F.length : Int) 0 (kd : Int) ⟨#[]⟩ 0 ⟨#[]⟩ 0 := f48.keep a41 (by simp)
      refine ⟨_, rfl, r48.c1, wr_blk a48 (Nat.lt_of_lt_of_eq (by decide : 5 < 7) rfl), fun w50 h50 => ?_⟩
      have f50 : Fr (· = A) w48 w50 := by rw [h50]; exact Fr.set (· = A) w48 (a := ⟨A, 5, none⟩) _ rfl
      have r50 := r48.keep f50 (by omega)
      obtain ⟨hwr, r52, f52⟩ := r50.move hx20
      refine ⟨_, r50.c1, hwr, fun w52 h52 => ?_⟩
      rw [e2] at h52
      subst h52
      refine ⟨0, _, ?_, f52.keep (show EntP w50 A (F.length : Int) 0 (kd : Int) ⟨#[]⟩ 0 _ 0 by unfold EntP; rw [h50, set_blk a48]; rfl) (by omega), f52.keep (f50.keep (f48.keep (f41.keep b29 (by simp)) (by simp)) (by omega)) (by omega),
        (((g29.trans' f41).trans' f48).trans f50 fun q hq e => by omega).trans f52 fun q hq e => by omega⟩
      rw [hx20]
      exact r52
    · have h6 : ¬ (kd : Int) = 6 := by simpa using h6
      have h7 : ¬ (kd : Int) = 7 := by simpa using h7
      have hn4 := hbf hb
      rcases hex with ⟨_, h, _⟩ | ⟨h, _⟩ | ⟨h, _⟩ <;> omega
  rintro w53 ⟨base, id, r53, a53, b53, g53⟩
  refine ⟨fun w' => w' = w53, ⟨fun hb => absurd (of_decide_eq_true hb) (by omega), fun _ => rfl⟩, ?_⟩
  rintro w55 hw
  replace hw := hw.symm
  subst hw
  refine ⟨_, r53.c1, (zread_spec body (by omega) _ _ w53).mono ?_⟩
  have hfx : F ++ headL kd D.size ++ ex ++ ([120, 1] ++ st ++ bigB 4 (adler D.data.toList) ++ T') = body.data.toList := by
    rw [hbl, ← hent]
    unfold entL frameS
    rw [hDl]
    simp only [List.append_assoc]
  have hzr := zread_stream (front := F ++ headL kd D.size ++ ex) (back := T') (q := bigB 4 (adler D.data.toList)) hst (most := D.size) (by rw [hDl]; exact Nat.le_refl _) (by omega) (bigB_length _ _)
  rw [if_pos rfl, hfx, show (F ++ headL kd D.size ++ ex).length = F.length + hl + ex.length by simp only [List.length_append, hhl]] at hzr
  rintro e w58 ⟨rfl, _, f58⟩
  rw [hzr]
  have r58 := r53.keep f58 (by simp)
  have a58 : EntP w58 A (F.length : Int) 0 (kd : Int) ⟨#[]⟩ base id 0 := f58.keep a53 (by simp)
  have b58 := f58.keep b53 (by simp)
  have g58 := g53.trans' f58
  obtain ⟨wb, b62, f62⟩ := pone_set b58 (.int .i64 0)
  refine ⟨_, _, _, rfl, wb, fun w62 h62 => ?_⟩
  have h62 : w62 = w58.setCell ⟨A + 1, 0, none⟩ (.int .i64 0) := h62
  subst h62
  have hD62 : (⟨(D.data.toList).toArray⟩ : ByteArray) = D := bs_self D
  refine ⟨fun w' => w' = w58.setCell ⟨A + 1, 0, none⟩ (.int .i64 0), ⟨_, pone_cell b62, fun h => (by cases h), fun _ => ⟨_, pone_cell b62, fun _ => ⟨fun hb => ?_, fun _ => rfl⟩, fun h => (by cases h)⟩⟩, ?_⟩
  · have := of_decide_eq_true hb
    dsimp only at this
    rw [hD62] at this
    omega
  rintro w68 hw
  subst hw
  refine ⟨fun w' => w' = w58.setCell ⟨A + 1, 0, none⟩ (.int .i64 0), ⟨_, pone_cell b62, fun h => (by cases h), fun _ => rfl⟩, ?_⟩
  rintro w72 hw
  subst hw
  dsimp only
  rw [hD62]
  have a62 : EntP _ A (F.length : Int) 0 (kd : Int) ⟨#[]⟩ base id 0 := f62.keep a58 (by omega)
  have r62 := r58.keep f62 (by omega)
  have g62 : Fr (fun _ => False) w _ := g58.trans f62 fun q hq e => by omega
  generalize w58.setCell ⟨A + 1, 0, none⟩ (.int .i64 0) = w72 at a62 r62 b62 g62 ⊢
  refine ⟨wr_blk a62 (Nat.lt_of_lt_of_eq (by decide : 3 < 7) rfl), fun w73 h73 => ?_⟩
  have a73 : EntP w73 A (F.length : Int) 0 (kd : Int) D base id 0 := by unfold EntP; rw [h73, set_blk a62]; rfl
  have f73 : Fr (· = A) w72 w73 := by rw [h73]; exact Fr.set (· = A) w72 (a := ⟨A, 3, none⟩) _ rfl
  have r73 := r62.keep f73 (by omega)
  have en : IntKind.i64.wrap (((F.length + hl + ex.length : Nat) : Int) + ((st.length + 6 : Nat) : Int)) = ((F.length + ent.length : Nat) : Int) := by rw [wrap_i64 (by omega) (by omega)]; omega
  refine ⟨_, r73.c1, ?_⟩
  rw [en]
  refine ⟨wr_blk a73 (Nat.lt_of_lt_of_eq (by decide : 1 < 7) rfl), fun w75 h75 => ?_⟩
  have a75 : EntP w75 A (F.length : Int) ((F.length + ent.length : Nat) : Int) (kd : Int) D base id 0 := by unfold EntP; rw [h75, set_blk a73]; rfl
  have f75 : Fr (· = A) w73 w75 := by rw [h75]; exact Fr.set (· = A) w73 (a := ⟨A, 1, none⟩) _ rfl
  refine ⟨_, by rw [cell_blk a75]; rfl, ⟨by omega, by omega, by omega⟩, ?_⟩
  rw [Int.toNat_natCast, Int.toNat_natCast]
  refine (crc32_spec _ (by rw [ByteArray.size_extract]; omega) w75).mono ?_
  rintro e w78 ⟨rfl, f78⟩
  have hcx : (body.extract F.length (F.length + ent.length)).data.toList = ent := by
    rw [bs_extract, hbl, List.drop_left, show F.length + ent.length - F.length = ent.length by omega, List.take_left]
  rw [hcx]
  have a78 : EntP w78 A (F.length : Int) ((F.length + ent.length : Nat) : Int) (kd : Int) D base id 0 := f78.keep a75 (by simp)
  refine ⟨_, rfl, wr_blk a78 (Nat.lt_of_lt_of_eq (by decide : 6 < 7) rfl), fun w80 h80 => ?_⟩
  have a80 : EntP w80 A (F.length : Int) ((F.length + ent.length : Nat) : Int) (kd : Int) D base id ((crcW ent).toNat : Int) := by unfold EntP; rw [h80, set_blk a78]; rfl
  have f80 : Fr (· = A) w78 w80 := by rw [h80]; exact Fr.set (· = A) w78 (a := ⟨A, 6, none⟩) _ rfl
  obtain ⟨w88, hr88, a88, f88⟩ := EntP.store a80 rfl (F.length : Int) ((F.length + ent.length : Nat) : Int) (kd : Int) base ((crcW ent).toNat : Int) D id
  have b88 := f88.keep (f80.keep (f78.keep (f75.keep (f73.keep b62 (by omega)) (by omega)) (by simp)) (by omega)) (by omega)
  obtain ⟨wb2, b89, f89⟩ := pone_set b88 (.int .i64 0)
  refine ⟨_, _, _, _, _, _, _, a80.load, w88, hr88, wb2, fun w89 h89 => ?_⟩
  subst h89
  refine (pread_idle _ _ _).mono ?_
  rintro e u w92 ⟨rfl, rfl, rfl⟩
  refine ⟨⟨_, rfl⟩, rfl, _, _, _, _, _, _, _, EntP.load (f89.keep a88 (by omega)), _, pload_one (by kernel_rfl) (pone_cell b89), ⟨base, id, rfl⟩, ?_⟩
  exact (((((g62.trans f73 fun q hq e => by omega).trans f75 fun q hq e => by omega).trans' f78).trans f80 fun q hq e => by omega).trans f88 fun q hq e => by omega).trans f89 fun q hq e => by omega
end Go.Proofs.YtaaimcbicpgjoaaGreatDoor

/- The closure of delta.Make that writes what is still plain. Conditions: texts of at most some ten thousand bytes. -/
set_option linter.unusedVariables false
namespace Go.Proofs.YtaaimcbicpgjoaaGreatDoor
open Go Vc Go.Proofs

/-- What Make holds in memory: what is still plain (p), what has come out (q); the map (r). -/
structure MkS (w : World) (base p q r : Nat) (lp lo : Sl) (ps os : List UInt8) : Prop where
  hp : w.heap[p]? = some (.cells #[.slice lp.a lp.len lp.cap] T_S_uint8 (0, 0))
  hq : w.heap[q]? = some (.cells #[.slice lo.a lo.len lo.cap] T_S_uint8 (0, 0))
  op : OwnO w base T_uint8 lp (byteV ps)
  oo : Vc.Own w base T_uint8 lo (byteV os)
  dis : ∀ x y, lp.a = some x → lo.a = some y → x.block ≠ y.block
  bp : ∀ x, lp.a = some x → x.block ≠ p ∧ x.block ≠ q ∧ x.block ≠ r
  bo : ∀ x, lo.a = some x → x.block ≠ p ∧ x.block ≠ q ∧ x.block ≠ r
  npq : p ≠ q
  npr : p ≠ r
  nqr : q ≠ r
  pb : base ≤ p
  qb : base ≤ q
  hr : r < w.heap.size
theorem MkS.keep {w w' : World} {base p q r : Nat} {lp lo : Sl} {ps os : List UInt8} (h : MkS w base p q r lp lo ps os) (hf : Fr (fun _ => False) w w') : MkS w' base p q r lp lo ps os :=
  ⟨hf.keep h.hp (by simp), hf.keep h.hq (by simp), h.op.keep hf (by simp), h.oo.keep hf (by simp), h.dis, h.bp, h.bo, h.npq, h.npr, h.nqr, h.pb, h.qb, Nat.lt_of_lt_of_le h.hr hf.size⟩
theorem MkS.cp {w : World} {base p q r : Nat} {lp lo : Sl} {ps os : List UInt8} (h : MkS w base p q r lp lo ps os) : w.cell? ⟨p, 0, none⟩ = some (.slice lp.a lp.len lp.cap) := by rw [cell_blk h.hp]; rfl
theorem MkS.cq {w : World} {base p q r : Nat} {lp lo : Sl} {ps os : List UInt8} (h : MkS w base p q r lp lo ps os) : w.cell? ⟨q, 0, none⟩ = some (.slice lo.a lo.len lo.cap) := by rw [cell_blk h.hq]; rfl
theorem since_ne {w : World} {l l' : Sl} (hs : Since w l l') {k : Nat} (hk : k < w.heap.size) (h : ∀ x, l.a = some x → x.block ≠ k) : ∀ x, l'.a = some x → x.block ≠ k := fun x hx e => by
  rcases hs x hx with ⟨y, hy, hb⟩ | hn
  · exact h y hy (by omega)
  · omega
/-- Something more has come out. -/
theorem MkS.out {w : World} {base p q r : Nat} {lp lo : Sl} {ps os : List UInt8} (h : MkS w base p q r lp lo ps os) {w' : World} {lo' : Sl} {os' : List UInt8} (ho : Vc.Own w' base T_uint8 lo' (byteV os')) (hf : Fr (At lo) w w') (hs : Since w lo lo') :
    Wr w' ⟨q, 0, none⟩ ∧ MkS (w'.setCell ⟨q, 0, none⟩ (.slice lo'.a lo'.len lo'.cap)) base p q r lp lo' ps os' ∧ Fr (fun k => At lo k ∨ k = q) w (w'.setCell ⟨q, 0, none⟩ (.slice lo'.a lo'.len lo'.cap)) := by
  have np : ¬ At lo p := fun ⟨y, hy, e⟩ => (h.bo y hy).1 e.symm
  have nq : ¬ At lo q := fun ⟨y, hy, e⟩ => (h.bo y hy).2.1 e.symm
  have hp' := hf.keep h.hp np
  have hq' := hf.keep h.hq nq
  have bl := lt_blk h.hp
  have bq := lt_blk h.hq
  have f2 : Fr (· = q) w' (w'.setCell ⟨q, 0, none⟩ (.slice lo'.a lo'.len lo'.cap)) := Fr.set (· = q) w' _ rfl
  have hb1 := since_ne hs bl fun x hx => (h.bo x hx).1
  have hb2 := since_ne hs bq fun x hx => (h.bo x hx).2.1
  have hb3 := since_ne hs h.hr fun x hx => (h.bo x hx).2.2
  have hpo := h.op.keep hf fun x hx ⟨y, hy, e⟩ => h.dis x y hx hy e
  refine ⟨wr_blk hq' (Nat.lt_succ_self 0), ⟨f2.keep hp' h.npq, by rw [set_blk hq']; rfl, hpo.keep f2 fun x hx => (h.bp x hx).2.1, ho.keep f2 hb2, fun x y hx hy e => ?_, h.bp, fun x hx => ⟨hb1 x hx, hb2 x hx, hb3 x hx⟩, h.npq, h.npr, h.nqr, h.pb, h.qb, ?_⟩, (hf.mono fun k _ hk => .inl hk).trans f2 fun k _ hk => .inr hk⟩
  · rcases hs y hy with ⟨z, hz, hb⟩ | hn
    · exact h.dis x z hx hz (by omega)
    · have := (h.op.blk hx).2; omega
  · have := h.hr; have := hf.size; have := f2.size; omega
/-- Something more is plain. -/
theorem MkS.plain {w : World} {base p q r : Nat} {lp lo : Sl} {ps os : List UInt8} (h : MkS w base p q r lp lo ps os) {w' : World} {lp' : Sl} {ps' : List UInt8} (ho : OwnO w' base T_uint8 lp' (byteV ps')) (hf : Fr (At lp) w w') (hs : Since w lp lp') :
    Wr w' ⟨p, 0, none⟩ ∧ MkS (w'.setCell ⟨p, 0, none⟩ (.slice lp'.a lp'.len lp'.cap)) base p q r lp' lo ps' os ∧ Fr (fun k => At lp k ∨ k = p) w (w'.setCell ⟨p, 0, none⟩ (.slice lp'.a lp'.len lp'.cap)) := by
  have np : ¬ At lp p := fun ⟨y, hy, e⟩ => (h.bp y hy).1 e.symm
  have nq : ¬ At lp q := fun ⟨y, hy, e⟩ => (h.bp y hy).2.1 e.symm
  have hp' := hf.keep h.hp np
  have hq' := hf.keep h.hq nq
  have bl := lt_blk h.hp
  have bq := lt_blk h.hq
  have f2 : Fr (· = p) w' (w'.setCell ⟨p, 0, none⟩ (.slice lp'.a lp'.len lp'.cap)) := Fr.set (· = p) w' _ rfl
  have hb1 := since_ne hs bl fun x hx => (h.bp x hx).1
  have hb2 := since_ne hs bq fun x hx => (h.bp x hx).2.1
  have hb3 := since_ne hs h.hr fun x hx => (h.bp x hx).2.2
  have hoo := h.oo.keep hf fun x hx ⟨y, hy, e⟩ => h.dis y x hy hx e.symm
  refine ⟨wr_blk hp' (Nat.lt_succ_self 0), ⟨by rw [set_blk hp']; rfl, f2.keep hq' fun e => h.npq e.symm, ho.keep f2 hb1, hoo.keep f2 fun x hx => (h.bo x hx).1, fun x y hx hy e => ?_, fun x hx => ⟨hb1 x hx, hb2 x hx, hb3 x hx⟩, h.bo, h.npq, h.npr, h.nqr, h.pb, h.qb, ?_⟩, (hf.mono fun k _ hk => .inl hk).trans f2 fun k _ hk => .inr hk⟩
  · rcases hs x hx with ⟨z, hz, hb⟩ | hn
    · exact h.dis z y hz hy (by omega)
    · have := (h.oo.blk hy).2; omega
  · have := h.hr; have := hf.size; have := f2.size; omega
theorem sub_since {w : World} {l : Sl} {k : Nat} : Since w l ⟨subA l.a l.cap k 1, l.len - k, l.cap - k⟩ := fun y hy => by
  refine .inl ?_
  simp only [subA] at hy
  split at hy
  · exact ⟨y, hy, rfl⟩
  · obtain ⟨x, hx, rfl⟩ := Option.map_eq_some_iff.1 hy
    exact ⟨x, hx, (add_block _ _).symm⟩
/-- Its front is cut off. -/
theorem MkS.cut {w : World} {base p q r : Nat} {lp lo : Sl} {ps os : List UInt8} (h : MkS w base p q r lp lo ps os) {k : Nat} (hk : k ≤ lp.len) :
    Wr w ⟨p, 0, none⟩ ∧ MkS (w.setCell ⟨p, 0, none⟩ (.slice (subA lp.a lp.cap k 1) (lp.len - k) (lp.cap - k))) base p q r ⟨subA lp.a lp.cap k 1, lp.len - k, lp.cap - k⟩ lo (ps.drop k) os ∧
      Fr (fun k => At lp k ∨ k = p) w (w.setCell ⟨p, 0, none⟩ (.slice (subA lp.a lp.cap k 1) (lp.len - k) (lp.cap - k))) := by
  have := h.op.sub hk
  rw [← List.map_drop] at this
  exact h.plain this (.refl _ _) sub_since
def lenAt (w : World) (p : Nat) : Nat := match w.cell? ⟨p, 0, none⟩ with
  | some (.slice _ n _) => n
  | _ => 0
theorem lenAt_of {w : World} {base p q r : Nat} {lp lo : Sl} {ps os : List UInt8} (h : MkS w base p q r lp lo ps os) : lenAt w p = lp.len := by
  unfold lenAt
  rw [h.cp]
theorem OwnO.cap {w : World} {base : Nat} {e : TypeId} {l : Sl} {xs : List Value} (h : OwnO w base e l xs) : l.len ≤ l.cap := by
  rcases h.2 with ⟨_, h1, h2⟩ | ⟨g, o, cur, _, _, _, hl, _⟩
  · omega
  · exact hl
theorem flush_spec {w : World} {base p q r : Nat} {lp lo : Sl} {ps os : List UInt8} (h : MkS w base p q r lp lo ps os) (hps : ps.length ≤ 20000) (hos : os.length ≤ 200000) (hbase : base ≤ w.heap.size) (B : List UInt8) :
    Calls Tryz.prog F_delta_Make_1 #[.pointer (some ⟨p, 0, none⟩), .pointer (some ⟨q, 0, none⟩)] w fun e w' => e = .returned (.tuple #[]) ∧ ∃ (lp' lo' : Sl) (is : List Ins), MkS w' base p q r lp' lo' [] (os ++ is.flatMap encD) ∧ (∀ x ∈ is, okD B x) ∧
      is.flatMap (outD B) = ps ∧ (is.flatMap encD).length ≤ 2 * ps.length ∧ Fr (fun k => At lo k ∨ k = p ∨ k = q) w w' := by
  refine vc_delta_Make_1_ok (c0 := ⟨p, 0, none⟩) (c1 := ⟨q, 0, none⟩) (R := fun v w' => v = .tuple #[] ∧ ∃ (lp' lo' : Sl) (is : List Ins), MkS w' base p q r lp' lo' [] (os ++ is.flatMap encD) ∧ (∀ x ∈ is, okD B x) ∧
      is.flatMap (outD B) = ps ∧ (is.flatMap encD).length ≤ 2 * ps.length ∧ Fr (fun k => At lo k ∨ k = p ∨ k = q) w w') ?_ (fun v w' h => ⟨by rw [h.1], h.2⟩)
  refine ⟨fun w' => ∃ (lp' lo' : Sl) (ps' : List UInt8) (is : List Ins), MkS w' base p q r lp' lo' ps' (os ++ is.flatMap encD) ∧ (∀ x ∈ is, okD B x) ∧ is.flatMap (outD B) ++ ps' = ps ∧ (is.flatMap encD).length + 2 * ps'.length ≤ 2 * ps.length ∧
      Since w lo lo' ∧ Since w lp lp' ∧ Fr (fun k => At lo k ∨ At lp k ∨ k = p ∨ k = q) w w' ∧ Fr (fun k => At lo k ∨ k = p ∨ k = q) w w', fun w' => lenAt w' p,
    ⟨lp, lo, ps, [], by simpa using h, by simp, rfl, by simp, .refl _ _, .refl _ _, .refl _ _, .refl _ _⟩, ?_⟩
  rintro w3 ⟨lp', lo', ps', is, hM, hok, hout, hln, hsin, hsinp, _, hf⟩
  have hlen := hM.op.len
  rw [byteV_length] at hlen
  have hcap := OwnO.cap hM.op
  have hlo := hM.oo.len
  rw [byteV_length, List.length_append] at hlo
  have hs3 := hf.size
  refine ⟨lp', hM.cp, fun hgt => ?_, fun hle => ?_⟩
  · have hgt := of_decide_eq_true hgt
    obtain ⟨k, hk⟩ : ∃ k : Nat, k = min 127 lp'.len := ⟨_, rfl⟩
    have hkI : (if (127 : Int) < (lp'.len : Int) then (127 : Int) else (lp'.len : Int)) = (k : Int) := by split <;> omega
    refine ⟨lp', hM.cp, fun w6 d6 => ?_⟩
    have f6 : Fr (fun _ => False) w3 w6 := .drew _ d6
    have hM6 := hM.keep f6
    refine ⟨fun w' => w'.cell? ⟨p, 0, none⟩ = some (.slice lp'.a lp'.len lp'.cap) ∧ w'.cell? ⟨q, 0, none⟩ = some (.slice lo'.a lo'.len lo'.cap), ⟨hM6.cp, hM6.cq⟩, lo', fun w9 h9 => h9.2, lp', fun w11 h11 => h11.1, ?_⟩
    rw [hkI, Int.toNat_natCast]
    refine ⟨⟨by omega, by omega⟩, fun w12 h12 => ?_⟩
    rw [wrap_u8 (by omega) (by omega)] at h12
    have f12 : Fr (fun _ => False) w6 w12 := by rw [h12]; exact .alloc _ _ _
    have hM12 := hM6.keep f12
    have hb6 : base ≤ w6.heap.size := by have := f6.size; omega
    obtain ⟨w13, l14, hr13, ho13, hf13, hs13⟩ := append_one' elByte hM6.oo (v := .int .u8 (k : Int)) rfl (by rw [byteV_length, List.length_append]; unfold maxLen; omega) (by rw [byteV_length, List.length_append]; omega) hb6 h12
    have np : ¬ At lo' p := fun ⟨y, hy, e⟩ => (hM6.bo y hy).1 e.symm
    have nq : ¬ At lo' q := fun ⟨y, hy, e⟩ => (hM6.bo y hy).2.1 e.symm
    have hs6 := hf13.size
    refine ⟨⟨hM12.cp, hM12.cq⟩, w13, l14, hr13, ⟨hf13.cell hM6.cp np, hf13.cell hM6.cq nq⟩, ?_⟩
    have hop13 := hM6.op.keep hf13 fun x hx ⟨y, hy, e⟩ => hM6.dis x y hx hy e
    have hrd : Reads w13 (subA lp'.a lp'.cap 0 1) (byteV (ps'.take k)) := by
      have := (hop13.reads.sub (cap := lp'.cap) (by rw [byteV_length]; omega) 0).take k
      rw [List.drop_zero, ← List.map_take] at this
      exact this
    have hkl : (ps'.take k).length = k := by rw [List.length_take]; omega
    obtain ⟨w15, l16, hr15, ho15, hf15, hs15⟩ := append_all' elByte ho13 lp'.cap hrd (byteV_one _) (by rw [List.length_append, byteV_length, byteV_length, List.length_append, hkl]; simp only [List.length_cons, List.length_nil]; unfold maxLen; omega)
      (by rw [List.length_append, byteV_length, byteV_length, List.length_append, hkl]; simp only [List.length_cons, List.length_nil]; omega) (by omega) (m := k) (by rw [byteV_length, hkl])
    have hfr : Fr (At lo') w6 w15 := hf13.trans hf15 fun q' hq ⟨y, hy, e⟩ => by
      rcases hs13 y hy with ⟨z, hz, hb⟩ | hn
      · exact ⟨z, hz, by omega⟩
      · omega
    have hsi := hs13.trans hs15 hf13.size
    have np15 := hfr.cell hM6.cp np
    have nq15 := hfr.cell hM6.cq nq
    have hos' : byteV (os ++ is.flatMap encD) ++ [Value.int .u8 (k : Int)] ++ byteV (ps'.take k) = byteV (os ++ (is ++ [Ins.plain (ps'.take k)]).flatMap encD) := by
      rw [byteV_snoc _ _ (by omega), flat_snoc, encD, hkl]
      simp only [byteV, List.map_append, List.append_assoc, List.map_cons, List.map_nil, List.cons_append, List.nil_append]
    rw [hos'] at ho15
    obtain ⟨hwr, hM17, hf17⟩ := hM6.out ho15 hfr hsi
    refine ⟨w15, l16, hr15, ⟨np15, nq15⟩, hwr, fun w17 h17 => ?_⟩
    subst h17
    obtain ⟨hwr2, hM19, hf19⟩ := hM17.cut (k := k) (by omega)
    refine ⟨lp', hM17.cp, ⟨by omega, by omega⟩, hwr2, fun w19 h19 => ?_⟩
    subst h19
    have hfin : Fr (fun k => At lo k ∨ k = p ∨ k = q) w (((w15.setCell ⟨q, 0, none⟩ (.slice l16.a l16.len l16.cap))).setCell ⟨p, 0, none⟩ (.slice (subA lp'.a lp'.cap k 1) (lp'.len - k) (lp'.cap - k))) := by
      refine ((hf.trans f6 fun q' _ hq => hq.elim).trans hf17 fun q' hq hx => ?_).trans (Fr.set (· = p) _ (a := ⟨p, 0, none⟩) _ rfl) fun q' hq hx => .inr (.inl hx)
      rcases hx with ⟨y, hy, e⟩ | hx
      · rcases hsin y hy with ⟨z, hz, hb⟩ | hn
        · exact .inl ⟨z, hz, by omega⟩
        · omega
      · exact .inr (.inr hx)
    refine ⟨⟨_, l16, ps'.drop k, is ++ [Ins.plain (ps'.take k)], hM19, ok_snoc hok ⟨by omega, by omega⟩, ?_, ?_, hsin.trans hsi (by have := f6.size; omega), hsinp.trans (sub_since (w := w3)) hs3, hfin.mono fun q' _ hx => ?_, hfin⟩, ?_⟩
    · rw [flat_snoc, outD, List.append_assoc, List.take_append_drop]; exact hout
    · rw [flat_snoc, List.length_append, encD, List.length_cons, hkl, List.length_drop]; omega
    · rcases hx with hx | hx
      · exact .inl hx
      · exact .inr (.inr hx)
    · show lenAt _ p < lenAt w3 p
      rw [lenAt_of hM19, lenAt_of hM]
      dsimp only
      omega
  · have hle := of_decide_eq_false hle
    have hp0 : ps' = [] := List.eq_nil_of_length_eq_zero (by omega)
    subst hp0
    rw [List.append_nil] at hout
    exact ⟨rfl, lp', lo', is, hM, hok, hout, by rw [List.length_nil] at hln; omega, hf⟩
end Go.Proofs.YtaaimcbicpgjoaaGreatDoor

/- delta.Make: what it writes makes the text of its base. Conditions: texts below 16384 bytes. -/
set_option linter.unusedVariables false
namespace Go.Proofs.YtaaimcbicpgjoaaGreatDoor
open Go Vc Go.Proofs

theorem same_part {x0 x1 : ByteArray} {o i m : Nat} (ho : o + m ≤ x0.size) (hi : i + m ≤ x1.size) (h : ∀ j, j < m → byt x0 (o + j) = byt x1 (i + j)) : (x0.data.toList.drop o).take m = (x1.data.toList.drop i).take m := by
  refine List.ext_getElem? fun j => ?_
  rw [List.getElem?_take, List.getElem?_take]
  split
  · rename_i hj
    rw [List.getElem?_drop, List.getElem?_drop, bs_get (by omega), bs_get (by omega), h j hj]
  · rfl
set_option maxHeartbeats 1600000 in
theorem make_spec (x0 x1 : ByteArray) (h0 : x0.size < 16384) (h1 : x1.size < 16384) (w : World) : Calls Tryz.prog F_delta_Make #[.string x0, .string x1] w fun e w' =>
    ∃ (d : ByteArray) (is : List Ins), e = .returned (.string d) ∧ IsDel x0.data.toList x1.data.toList d.data.toList is ∧ d.size ≤ 4 + 2 * x1.size ∧ Fr (fun _ => False) w w' := by
  refine vc_delta_Make_ok (R := fun v w' => ∃ (d : ByteArray) (is : List Ins), v = .string d ∧ IsDel x0.data.toList x1.data.toList d.data.toList is ∧ d.size ≤ 4 + 2 * x1.size ∧ Fr (fun _ => False) w w') ?_ (fun v w' ⟨d, is, h1, h2⟩ => ⟨d, is, by rw [h1], h2⟩)
  obtain ⟨B, hB⟩ : ∃ B, x0.data.toList = B := ⟨_, rfl⟩
  obtain ⟨T, hT⟩ : ∃ T, x1.data.toList = T := ⟨_, rfl⟩
  rw [hB, hT]
  have hBl : B.length = x0.size := by rw [← hB, bs_len]
  have hTl : T.length = x1.size := by rw [← hT, bs_len]
  have hl0 := sizedL_len x0.size
  have hl1 := sizedL_len x1.size
  refine (sized_spec x0.size h0 w).mono ?_
  rintro e w2 ⟨l3, rfl, o3, f2⟩
  refine ⟨l3, rfl, (sized_spec x1.size h1 w2).mono ?_⟩
  rintro e w5 ⟨l6, rfl, o6, f5⟩
  have hl6 := o6.len
  rw [byteV_length] at hl6
  obtain ⟨w7, l8, hr7, o7, f7, s7⟩ := append_all' elByte (o3.keep f5 (by simp)) l6.cap o6.reads (byteV_one _) (by rw [byteV_length, byteV_length]; unfold maxLen; omega) (by rw [byteV_length, byteV_length]; omega) (f2.trans' f5).size (m := l6.len) (by rw [byteV_length]; omega)
  obtain ⟨hdr, hhdr⟩ : ∃ hdr, sizedL x0.size ++ sizedL x1.size = hdr := ⟨_, rfl⟩
  have hhl : hdr.length ≤ 4 := by rw [← hhdr, List.length_append]; omega
  rw [← List.map_append, hhdr] at o7
  have g7 : Fr (fun _ => False) w w7 := (f2.trans' f5).trans f7 fun q hq ⟨y, hy, e⟩ => by have := (o3.blk hy).1; omega
  refine ⟨l6, rfl, w7, l8, hr7, fun w9 h9 => ?_⟩
  have f9 : Fr (fun _ => False) w7 w9 := by rw [h9]; exact .alloc _ _ _
  have hq9 : w9.heap[w7.heap.size]? = some (.cells #[.slice none 0 0] T_S_uint8 (0, 0)) := by rw [h9]; exact alloc_new _ _
  have s9 : w9.heap.size = w7.heap.size + 1 := by rw [h9]; simp
  clear h9
  refine ⟨wr_blk hq9 (Nat.lt_succ_self 0), fun w10 h10 w11 h11 => ?_⟩
  have hq10 : w10.heap[w7.heap.size]? = some (.cells #[.slice l8.a l8.len l8.cap] T_S_uint8 (0, 0)) := by rw [h10, set_blk hq9]; rfl
  have f10 : Fr (· = w7.heap.size) w9 w10 := by rw [h10]; exact Fr.set (· = w7.heap.size) w9 (a := ⟨w7.heap.size, 0, none⟩) _ rfl
  have s10 : w10.heap.size = w9.heap.size := by rw [h10]; simp
  have f11 : Fr (fun _ => False) w10 w11 := by rw [h11]; exact .alloc _ _ _
  have hm11 : MapOf w11 w10.heap.size [] := by rw [h11]; exact MapOf.new
  have s11 : w11.heap.size = w10.heap.size + 1 := by rw [h11]; simp
  clear h10 h11
  have f7_11 : Fr (fun _ => False) w7 w11 := (f9.trans f10 fun q hq e => by omega).trans' f11
  have hq11 := f11.keep hq10 (by simp)
  have hbl8 : ∀ x, l8.a = some x → w.heap.size ≤ x.block ∧ x.block < w7.heap.size := fun x hx => o7.blk hx
  have o11 := o7.keep f7_11 (by simp)
  have g11 := g7.trans' f7_11
  have hwq := g7.size
  obtain ⟨q, hqe⟩ : ∃ q, w7.heap.size = q := ⟨_, rfl⟩
  obtain ⟨r, hre⟩ : ∃ r, w10.heap.size = r := ⟨_, rfl⟩
  rw [hqe] at hq11 hbl8
  rw [hre] at hm11
  rw [hqe, hre]
  have hqr : r = q + 1 := by omega
  have s11r : w11.heap.size = r + 1 := by omega
  clear hq9 f9 s9 hq10 f10 s10 f11 s11 f7_11 o7 f7 s7 hr7 hre
  refine ⟨fun m w' => ∃ (k : Nat) (L : List (ByteArray × Value)), m = k ∧ k ≤ x0.size ∧ MapOf w' r L ∧ (∀ x ∈ L, ∃ v : Nat, x.2 = .int .i64 (v : Int) ∧ v ≤ x0.size) ∧ Fr (· = r) w11 w', fun m _ => x0.size - m.toNat,
    ⟨0, [], rfl, Nat.zero_le _, hm11, by simp, .refl _ _⟩, ?_⟩
  rintro m w15 ⟨k, L, rfl, hk, hm15, hL, f15⟩
  have e4 : IntKind.i64.wrap ((k : Int) + 4) = ((k + 4 : Nat) : Int) := by rw [wrap_i64 (by omega) (by omega)]; omega
  have e1 : IntKind.i64.wrap ((k : Int) + 1) = ((k + 1 : Nat) : Int) := by rw [wrap_i64 (by omega) (by omega)]; omega
  have look : ∀ {w' : World} {L : List (ByteArray × Value)}, MapOf w' r L → (∀ x ∈ L, ∃ v : Nat, x.2 = .int .i64 (v : Int) ∧ v ≤ x0.size) → ∀ key : ByteArray,
      ∃ (v : Nat) (b : Bool), (Instr.lookup T_map_string_int (.map (some r)) (.string key) true).run Tryz.prog w' = .ok (.tuple #[.int .i64 (v : Int), .bool b]) w' ∧ v ≤ x0.size := fun {w' L} hm hL key => by
    have := map_lookup (P := Tryz.prog) (mt := T_map_string_int) (kt := T_string) (et := T_int) (by kernel_rfl) (by kernel_rfl) (z := .int .i64 0) (w := w') (by kernel_rfl) hm key true
    cases hlk : mlook L key with
    | none =>
      rw [hlk] at this
      exact ⟨0, false, this, Nat.zero_le _⟩
    | some v =>
      obtain ⟨u, hu, hle⟩ := hL _ (mlook_mem hlk)
      simp only at hu
      rw [hlk, hu] at this
      exact ⟨u, true, this, hle⟩
  refine ⟨fun hle => ?_, fun hgt w20 h20 => ?_⟩
  · have hle := of_decide_eq_true hle
    rw [e4] at hle ⊢
    rw [e1]
    obtain ⟨v, b, hr, hv⟩ := look hm15 hL (x0.extract (Int.toNat (k : Int)) (Int.toNat ((k + 4 : Nat) : Int)))
    refine ⟨⟨by omega, by omega, by omega⟩, w15, v, b, hr, fun hb => ⟨⟨by omega, by omega, by omega⟩, ?_⟩, fun hb => ⟨⟨k + 1, L, rfl, by omega, hm15, hL, f15⟩, by dsimp only; omega⟩⟩
    obtain ⟨w19, hr19, hm19, f19⟩ := map_update (P := Tryz.prog) (mt := T_map_string_int) (kt := T_string) (et := T_int) (by kernel_rfl) (by kernel_rfl) hm15 (x0.extract (Int.toNat (k : Int)) (Int.toNat ((k + 4 : Nat) : Int))) (.int .i64 (k : Int))
    exact ⟨w19, hr19, ⟨k + 1, _, rfl, by omega, hm19, mupd_all (p := fun x => ∃ v : Nat, x.2 = .int .i64 (v : Int) ∧ v ≤ x0.size) ⟨k, rfl, by omega⟩ _ hL, f15.trans' f19⟩, by dsimp only; omega⟩
  clear e4 e1 hgt
  have f20 : Fr (fun _ => False) w15 w20 := by rw [h20]; exact .alloc _ _ _
  have hp20 : w20.heap[w15.heap.size]? = some (.cells #[.slice none 0 0] T_S_uint8 (0, 0)) := by rw [h20]; exact alloc_new _ _
  clear h20
  have s15 := f15.size
  have hm20 := hm15.keep f20 (by simp)
  have g20 : Fr (fun _ => False) w w20 := (g11.trans f15 fun q' hq e => by omega).trans' f20
  have hM20 : MkS w20 w.heap.size w15.heap.size q r ⟨none, 0, 0⟩ l8 [] hdr :=
    ⟨hp20, f20.keep (f15.keep hq11 (by omega)) (by simp), .of (Vc.Own.nil _ _ _), (o11.keep f15 fun x hx e => by have := hbl8 x hx; omega).keep f20 (by simp), fun x y hx => by simp at hx, fun x hx => by simp at hx, fun x hx => by have := hbl8 x hx; omega, by omega, by omega, by omega, by omega, by omega, by have := f20.size; omega⟩
  generalize w15.heap.size = p at hp20 hM20 ⊢
  clear hp20 hm15 f15 f20 s15 hm11 hq11 o11 hbl8 s11r hk
  refine ⟨fun m w' => ∃ (i : Nat) (lp lo : Sl) (ps : List UInt8) (is : List Ins), m = i ∧ i ≤ x1.size ∧ MkS w' w.heap.size p q r lp lo ps (hdr ++ is.flatMap encD) ∧ (∀ x ∈ is, okD B x) ∧ is.flatMap (outD B) ++ ps = T.take i ∧
      (hdr ++ is.flatMap encD).length + 2 * ps.length ≤ 4 + 2 * i ∧ MapOf w' r L ∧ Fr (fun _ => False) w w', fun m _ => x1.size - m.toNat,
    ⟨0, ⟨none, 0, 0⟩, l8, [], [], rfl, Nat.zero_le _, by simpa using hM20, by simp, rfl, by simp; omega, hm20, g20⟩, ?_⟩
  clear hM20 hm20 g20
  rintro m w24 ⟨i, lp, lo, ps, is, rfl, hi, hM, hok, hout, hln, hm24, g24⟩
  have hbase := g24.size
  refine ⟨fun hlt => ?_, fun hge => ?_⟩
  · have hlt := of_decide_eq_true hlt
    have hix : i < x1.size := by omega
    have e4 : IntKind.i64.wrap ((i : Int) + 4) = ((i + 4 : Nat) : Int) := by rw [wrap_i64 (by omega) (by omega)]; omega
    have e1 : IntKind.i64.wrap ((i : Int) + 1) = ((i + 1 : Nat) : Int) := by rw [wrap_i64 (by omega) (by omega)]; omega
    rw [e4, e1]
    refine ⟨fun v b w' => (∃ o : Nat, v = o ∧ o ≤ x0.size) ∧ w' = w24, ⟨fun hle => ?_, fun hgt => ⟨⟨0, rfl, Nat.zero_le _⟩, rfl⟩⟩, ?_⟩
    · have hle := of_decide_eq_true hle
      obtain ⟨v, b, hr, hv⟩ := look hm24 hL (x1.extract (Int.toNat (i : Int)) (Int.toNat ((i + 4 : Nat) : Int)))
      exact ⟨⟨by omega, by omega, by omega⟩, w24, v, b, hr, ⟨v, rfl, hv⟩, rfl⟩
    rintro v b w31 ⟨⟨o, rfl, ho⟩, hw⟩
    replace hw := hw.symm
    subst hw
    refine ⟨fun v w' => ∃ m : Nat, v = m ∧ i + m ≤ x1.size ∧ (0 < m → o + m ≤ x0.size) ∧ (∀ j, j < m → byt x0 (o + j) = byt x1 (i + j)) ∧ Fr (fun _ => False) w24 w', ⟨fun v w' => ∃ m : Nat, v = m ∧ i + m ≤ x1.size ∧ (0 < m → o + m ≤ x0.size) ∧ (∀ j, j < m → byt x0 (o + j) = byt x1 (i + j)) ∧ Fr (fun _ => False) w24 w', fun v _ => x1.size - v.toNat,
      ⟨0, rfl, by omega, fun h => by omega, fun j hj => by omega, .refl _ _⟩, ?_⟩, ?_⟩
    · rintro v w36 ⟨m, rfl, hm1, hm0, heq, f36⟩
      have stay : ∀ {w' : World}, Drew w36 w' → ∃ m' : Nat, (m : Int) = m' ∧ i + m' ≤ x1.size ∧ (0 < m' → o + m' ≤ x0.size) ∧ (∀ j, j < m' → byt x0 (o + j) = byt x1 (i + j)) ∧ Fr (fun _ => False) w24 w' := fun d => ⟨m, rfl, hm1, hm0, heq, f36.trans' (.drew _ d)⟩
      have ea : IntKind.i64.wrap ((o : Int) + (m : Int)) = ((o + m : Nat) : Int) := by rw [wrap_i64 (by omega) (by omega)]; omega
      have eb : IntKind.i64.wrap ((i : Int) + (m : Int)) = ((i + m : Nat) : Int) := by rw [wrap_i64 (by omega) (by omega)]; omega
      have ec : IntKind.i64.wrap ((m : Int) + 1) = ((m + 1 : Nat) : Int) := by rw [wrap_i64 (by omega) (by omega)]; omega
      rw [ea, eb, ec, byteAt_nat, byteAt_nat]
      refine ⟨fun hb => ⟨fun h6 => ⟨fun ha => ⟨fun hc => ?_, fun hc w38 d38 => stay d38⟩, fun ha w39 d39 => stay d39⟩, fun h6 w40 d40 => stay d40⟩, fun hb w41 d41 => stay d41⟩
      have ha := of_decide_eq_true ha
      have hc := of_decide_eq_true hc
      refine ⟨⟨by omega, by omega⟩, ⟨by omega, by omega⟩, fun w37 d37 => ⟨fun he => ⟨⟨m + 1, rfl, by omega, fun _ => by omega, fun j hj => ?_, f36.trans' (.drew _ d37)⟩, by dsimp only; omega⟩, fun he => stay d37⟩⟩
      by_cases hjm : j = m
      · have he : ((byt x0 (o + m) : Nat) : Int) = ((byt x1 (i + m) : Nat) : Int) := eq_of_beq he
        rw [hjm]; omega
      · exact heq j (by omega)
    · rintro v w43 ⟨m, rfl, hm1, hm0, heq, f43⟩
      have hM43 := hM.keep f43
      have hm43 := hm24.keep f43 (by simp)
      have g43 := g24.trans' f43
      refine ⟨fun hm4 w44 d44 => ?_, fun hm4 => ?_⟩
      · have f44 : Fr (fun _ => False) w43 w44 := .drew _ d44
        have hM44 := hM43.keep f44
        have hlp := hM44.op.len
        rw [byteV_length] at hlp
        rw [List.length_append] at hln
        refine ⟨fun w' => w'.cell? ⟨p, 0, none⟩ = some (.slice lp.a lp.len lp.cap), hM44.cp, lp, fun w47 h47 => h47, ⟨by omega, by omega⟩, fun w48 h48 => ?_⟩
        rw [byteAt_nat] at h48
        have hg44 : w.heap.size ≤ w44.heap.size := (g43.trans' f44).size
        obtain ⟨w49, l50, hr49, ho49, f49, s49⟩ := append_one_o elByte hM44.op (v := .int .u8 ((byt x1 i : Nat) : Int)) rfl (by rw [byteV_length]; unfold maxLen; omega) (by rw [byteV_length]; omega) hg44 h48
        have f48 : Fr (fun _ => False) w44 w48 := by rw [h48]; exact .alloc _ _ _
        rw [byteV_snoc _ _ (byt_lt _ _)] at ho49
        obtain ⟨hwr, hM51, f51⟩ := hM44.plain ho49 f49 s49
        have hcp49 := f49.cell hM44.cp fun ⟨y, hy, e⟩ => (hM44.bp y hy).1 e.symm
        refine ⟨f48.cell hM44.cp (by simp), w49, l50, hr49, hcp49, hwr, fun w51 h51 => ?_⟩
        subst h51
        refine ⟨⟨i + 1, l50, lo, ps ++ [UInt8.ofNat (byt x1 i)], is, rfl, by omega, hM51, hok, ?_, ?_, (hm43.keep f44 (by simp)).keep f51 fun hx => ?_, (g43.trans' f44).trans f51 fun q' hq hx => ?_⟩, by dsimp only; omega⟩
        · rw [← List.append_assoc, hout, List.take_add_one, ← hT, bs_get hix]; rfl
        · rw [List.length_append, List.length_append, List.length_cons, List.length_nil]; omega
        · rcases hx with ⟨y, hy, e⟩ | hx
          · exact (hM44.bp y hy).2.2 e.symm
          · exact hM44.npr hx.symm
        · rcases hx with ⟨y, hy, e⟩ | hx
          · have := (hM44.op.blk hy).1; omega
          · have := hM44.pb; omega
      · have hm4 := of_decide_eq_false hm4
        have hps : ps.length ≤ 20000 := by have := congrArg List.length hout; rw [List.length_append, List.length_take] at this; omega
        refine (flush_spec hM43 hps (by omega) g43.size B).mono ?_
        rintro e w53 ⟨rfl, lp2, lo2, is2, hM53, hok2, hout2, hln2, f53⟩
        refine ⟨rfl, fun w54 d54 => ?_⟩
        have f54 : Fr (fun _ => False) w53 w54 := .drew _ d54
        have hM54 := hM53.keep f54
        have g53 : Fr (fun _ => False) w w53 := g43.trans f53 fun q' hq hx => by
          rcases hx with ⟨y, hy, e⟩ | hx | hx
          · have := (hM43.oo.blk hy).1; omega
          · have := hM43.pb; omega
          · have := hM43.qb; omega
        have hm53 := hm43.keep f53 fun hx => by
          rcases hx with ⟨y, hy, e⟩ | hx | hx
          · exact (hM43.bo y hy).2.2 e.symm
          · exact hM43.npr hx.symm
          · exact hM43.nqr hx.symm
        have ho1 : o + m ≤ x0.size := hm0 (by omega)
        refine ⟨fun w' => w'.cell? ⟨q, 0, none⟩ = some (.slice lo2.a lo2.len lo2.cap), hM54.cq, lo2, fun w57 h57 => h57, (copyOf_spec o m (by omega) (by omega) w54).mono ?_⟩
        rintro e w59 ⟨l60, rfl, o60, f59⟩
        have hM59 := hM54.keep f59
        have hl60 := o60.len
        rw [byteV_length] at hl60
        have hel : (encD (.copy o m)).length ≤ 8 := by
          unfold encD
          rw [List.length_cons]
          have := cpbs_len o m 0 7
          omega
        have hll : (hdr ++ is.flatMap encD ++ is2.flatMap encD).length ≤ 4 + 2 * i := by rw [List.length_append]; omega
        have g59 := (g53.trans' f54).trans' f59
        obtain ⟨w61, l62, hr61, o61, f61, s61⟩ := append_all' elByte hM59.oo l60.cap o60.reads (byteV_one _) (by rw [byteV_length, byteV_length]; unfold maxLen; omega) (by rw [byteV_length, byteV_length]; omega) g59.size (m := l60.len) (by rw [byteV_length]; omega)
        rw [← List.map_append] at o61
        have hbe : hdr ++ is.flatMap encD ++ is2.flatMap encD ++ encD (.copy o m) = hdr ++ (is ++ is2 ++ [Ins.copy o m]).flatMap encD := by
          rw [flat_snoc, List.flatMap_append, List.append_assoc, List.append_assoc, List.append_assoc]
        rw [hbe] at o61
        obtain ⟨hwr, hM63, f63⟩ := hM59.out o61 f61 s61
        refine ⟨l60, rfl, hM59.cq, w61, l62, hr61, f61.cell hM59.cq fun ⟨y, hy, e⟩ => (hM59.bo y hy).2.1 e.symm, hwr, fun w63 h63 => ?_⟩
        subst h63
        have ei : IntKind.i64.wrap ((i : Int) + (m : Int)) = ((i + m : Nat) : Int) := by rw [wrap_i64 (by omega) (by omega)]; omega
        rw [ei]
        refine ⟨⟨i + m, lp2, l62, [], is ++ is2 ++ [Ins.copy o m], rfl, hm1, hM63, ok_snoc (fun y hy => ?_) ⟨by omega, by omega, by omega⟩, ?_, ?_, ((hm53.keep f54 (by simp)).keep f59 (by simp)).keep f63 fun hx => ?_, g59.trans f63 fun q' hq hx => ?_⟩, by dsimp only; omega⟩
        · rcases List.mem_append.1 hy with hy | hy
          · exact hok y hy
          · exact hok2 y hy
        · rw [List.append_nil, flat_snoc, List.flatMap_append, hout2, hout, outD, List.take_add, ← hB, ← hT, same_part ho1 hm1 heq]
        · rw [← hbe, List.length_append, List.length_nil]; omega
        · rcases hx with ⟨y, hy, e⟩ | hx
          · exact (hM59.bo y hy).2.2 e.symm
          · exact hM59.nqr hx.symm
        · rcases hx with ⟨y, hy, e⟩ | hx
          · have := (hM59.oo.blk hy).1; omega
          · have := hM59.qb; omega
  · have hge := of_decide_eq_false hge
    have hi2 : i = x1.size := by omega
    have hps : ps.length ≤ 20000 := by have := congrArg List.length hout; rw [List.length_append, List.length_take] at this; omega
    refine (flush_spec hM hps (by omega) g24.size B).mono ?_
    rintro e w65 ⟨rfl, lp2, lo2, is2, hM65, hok2, hout2, hln2, f65⟩
    have g65 : Fr (fun _ => False) w w65 := g24.trans f65 fun q' hq hx => by
      rcases hx with ⟨y, hy, e⟩ | hx | hx
      · have := (hM.oo.blk hy).1; omega
      · have := hM.pb; omega
      · have := hM.qb; omega
    have hTi : T.take i = T := by rw [hi2, ← hTl, List.take_length]
    refine ⟨rfl, (sized_spec x0.size h0 w65).mono ?_⟩
    rintro e w67 ⟨l68, rfl, o68, f67⟩
    refine ⟨l68, rfl, (sized_spec x1.size h1 w67).mono ?_⟩
    rintro e w70 ⟨l71, rfl, o71, f70⟩
    have hl71 := o71.len
    rw [byteV_length] at hl71
    obtain ⟨w72, l73, hr72, o72, f72, s72⟩ := append_all' elByte (o68.keep f70 (by simp)) l71.cap o71.reads (byteV_one _) (by rw [byteV_length, byteV_length]; unfold maxLen; omega) (by rw [byteV_length, byteV_length]; omega) (f67.trans' f70).size (m := l71.len) (by rw [byteV_length]; omega)
    rw [← List.map_append, hhdr] at o72
    have f65_72 : Fr (fun _ => False) w65 w72 := (f67.trans' f70).trans f72 fun q' hq ⟨y, hy, e⟩ => by have := (o68.blk hy).1; omega
    refine ⟨l71, rfl, w72, l73, hr72, fun s l w' => ∃ (j : Nat) (is' : List Ins), s.data.toList = T.drop j ∧ j ≤ x1.size ∧ Vc.Own w' w65.heap.size T_uint8 l (byteV (hdr ++ is'.flatMap encD)) ∧ (∀ x ∈ is', okD B x) ∧ is'.flatMap (outD B) = T.take j ∧
        (hdr ++ is'.flatMap encD).length ≤ 4 + 2 * j ∧ Fr (fun _ => False) w65 w', fun s _ _ => s.size, ⟨0, [], by rw [hT]; rfl, Nat.zero_le _, by simpa using o72, by simp, rfl, by simpa using hhl, f65_72⟩, ?_⟩
    rintro s l w78 ⟨j, is', hs, hj, o78, hok', hout', hln', f78⟩
    have hsz : s.size = x1.size - j := by rw [← bs_len, hs, List.length_drop, hTl]
    have hl77 := o78.len
    rw [byteV_length] at hl77
    refine ⟨fun hgt w79 d79 => ?_, fun hle => ?_⟩
    · have hgt := of_decide_eq_true hgt
      obtain ⟨k, hk⟩ : ∃ k : Nat, k = min 127 s.size := ⟨_, rfl⟩
      have hkI : (if (127 : Int) < (s.size : Int) then (127 : Int) else (s.size : Int)) = (k : Int) := by split <;> omega
      rw [hkI, Int.toNat_natCast]
      refine ⟨fun _ => True, trivial, ⟨by omega, by omega⟩, fun w81 h81 => ⟨trivial, ?_⟩⟩
      rw [wrap_u8 (by omega) (by omega)] at h81
      have g79 : w65.heap.size ≤ w79.heap.size := (f78.trans' (.drew _ d79)).size
      obtain ⟨w82, l83, hr82, o82, f82, s82⟩ := append_one' elByte (o78.drew d79) (v := .int .u8 (k : Int)) rfl (by rw [byteV_length]; unfold maxLen; omega) (by rw [byteV_length]; omega) g79 h81
      rw [byteV_snoc _ _ (by omega)] at o82
      have hek : (s.extract 0 k).data.toList = (T.drop j).take k := by rw [bs_head, hs]
      have hekl : ((T.drop j).take k).length = k := by rw [List.length_take, List.length_drop]; omega
      have heks : (s.extract 0 k).size = k := by rw [← bs_len, hek, hekl]
      obtain ⟨w84, l85, hr84, o84, f84, s84⟩ := append_str (u := T_string) elByte (by kernel_rfl) o82 (s.extract 0 k) (by rw [byteV_length, List.length_append, heks, List.length_cons, List.length_nil]; omega) (Nat.le_trans g79 f82.size)
      refine ⟨w82, l83, hr82, trivial, w84, l85, hr84, trivial, ⟨by omega, by omega⟩, ⟨j + k, is' ++ [Ins.plain ((T.drop j).take k)], ?_, by omega, ?_, ok_snoc hok' ⟨by omega, by omega⟩, ?_, ?_, ?_⟩, ?_⟩
      · rw [bs_tail, hs, List.drop_drop]
      · rw [hek, ← List.map_append] at o84
        rw [flat_snoc, encD, hekl]
        rw [List.append_assoc, List.append_assoc] at o84
        exact o84
      · rw [flat_snoc, outD, hout', List.take_add]
      · rw [flat_snoc, ← List.append_assoc, List.length_append, encD, List.length_cons, hekl]; omega
      · refine ((f78.trans' (.drew _ d79)).trans f82 fun q' hq ⟨y, hy, e⟩ => by have := (o78.blk hy).1; omega).trans f84 fun q' hq ⟨y, hy, e⟩ => by have := (o82.blk hy).1; omega
      · have : (s.extract k s.size).size = s.size - k := by rw [← bs_len, bs_tail, List.length_drop, bs_len]
        dsimp only
        omega
    · have hle := of_decide_eq_false hle
      have hj2 : j = x1.size := by omega
      have hTj : T.take j = T := by rw [hj2, ← hTl, List.take_length]
      have hM78 := hM65.keep f78
      have hl86 := hM78.oo.len
      rw [byteV_length] at hl86
      refine ⟨lo2, hM78.cq, fun hlt => ?_, fun hlt => ?_⟩
      · refine ⟨w78, _, bytes_str (e := T_uint8) (by kernel_rfl) (by kernel_rfl) (by kernel_rfl) l.cap o78.reads (by omega), _, is', rfl, ⟨hok', by rw [hout', hTj], ?_⟩, ?_, g65.trans' f78⟩
        · rw [bs_mk, hBl, hTl, ← List.append_assoc, hhdr]
        · rw [bs_mksize]; omega
      · have hlt := of_decide_eq_false hlt
        refine ⟨lo2, hM78.cq, w78, _, bytes_str (e := T_uint8) (by kernel_rfl) (by kernel_rfl) (by kernel_rfl) lo2.cap hM78.oo.reads (by omega), _, is ++ is2, rfl, ⟨fun y hy => ?_, by rw [List.flatMap_append, hout2, hout, hTi], ?_⟩, ?_, g65.trans' f78⟩
        · rcases List.mem_append.1 hy with hy | hy
          · exact hok y hy
          · exact hok2 y hy
        · rw [bs_mk, hBl, hTl, ← List.append_assoc, hhdr, List.flatMap_append, List.append_assoc]
        · rw [bs_mksize]; omega
end Go.Proofs.YtaaimcbicpgjoaaGreatDoor

/- SHA-1 and SHA-256 on lists. -/
set_option linter.unusedVariables false
namespace ShaM
abbrev W := BitVec 32
def rotl (x : W) (n : Nat) : W := (x <<< n) ||| (x >>> (32 - n))
/-- Four bytes from number i on as a word, the highest first. -/
def be (p : List UInt8) (i : Nat) : W := BitVec.ofNat 32 ((p.getD i 0).toNat * 16777216 + (p.getD (i + 1) 0).toNat * 65536 + (p.getD (i + 2) 0).toNat * 256 + (p.getD (i + 3) 0).toNat)
def words (p : List UInt8) : List W := (List.range 16).map fun i => be p (4 * i)
def ext1 : Nat → List W → List W
  | 0, w => w
  | n + 1, w => ext1 n (w ++ [rotl (w.getD (w.length - 3) 0 ^^^ w.getD (w.length - 8) 0 ^^^ w.getD (w.length - 14) 0 ^^^ w.getD (w.length - 16) 0) 1])
def f1 (i : Nat) (b c d : W) : W := if i < 20 then (b &&& c) ||| (~~~b &&& d) else if i < 40 then b ^^^ c ^^^ d else if i < 60 then (b &&& c) ||| (b &&& d) ||| (c &&& d) else b ^^^ c ^^^ d
def k1 (i : Nat) : W := if i < 20 then 0x5a827999#32 else if i < 40 then 0x6ed9eba1#32 else if i < 60 then 0x8f1bbcdc#32 else 0xca62c1d6#32
/-- One round. -/
def rd1 (i : Nat) (x : W) : List W → List W
  | [a, b, c, d, e] => [rotl a 5 + f1 i b c d + e + k1 i + x, a, rotl b 30, c, d]
  | v => v
def rds1 : Nat → List W → List W → List W
  | _, [], v => v
  | i, x :: r, v => rds1 (i + 1) r (rd1 i x v)
def adds : List W → List W → List W
  | a :: h, b :: v => (a + b) :: adds h v
  | _, _ => []
def block1 (h : List W) (p : List UInt8) : List W := adds h (rds1 0 (ext1 64 (words p)) h)
def blocks (f : List W → List UInt8 → List W) : Nat → List W → List UInt8 → List W
  | 0, h, _ => h
  | n + 1, h, t => blocks f n (f h (t.take 64)) (t.drop 64)
def pad (t : List UInt8) : List UInt8 := t ++ 0x80 :: List.replicate ((119 - t.length % 64) % 64) 0 ++ (List.range 8).map fun i => UInt8.ofNat (t.length * 8 / 2 ^ (56 - 8 * i))
def outw (x : W) : List UInt8 := [UInt8.ofNat (x.toNat / 16777216), UInt8.ofNat (x.toNat / 65536), UInt8.ofNat (x.toNat / 256), UInt8.ofNat x.toNat]
def out (h : List W) : List UInt8 := h.flatMap outw
def start1 : List W := [0x67452301#32, 0xefcdab89#32, 0x98badcfe#32, 0x10325476#32, 0xc3d2e1f0#32]
def sha1 (t : List UInt8) : List UInt8 := out (blocks block1 ((pad t).length / 64) start1 (pad t))

def ext2 : Nat → List W → List W
  | 0, w => w
  | n + 1, w =>
    let x := w.getD (w.length - 15) 0
    let y := w.getD (w.length - 2) 0
    ext2 n (w ++ [w.getD (w.length - 16) 0 + (rotl x 25 ^^^ rotl x 14 ^^^ x >>> 3) + w.getD (w.length - 7) 0 + (rotl y 15 ^^^ rotl y 13 ^^^ y >>> 10)])
def rd2 (k w : W) : List W → List W
  | [a, b, c, d, e, f, g, h] =>
    let x := h + (rotl e 26 ^^^ rotl e 21 ^^^ rotl e 7) + ((e &&& f) ^^^ (~~~e &&& g)) + k + w
    let y := (rotl a 30 ^^^ rotl a 19 ^^^ rotl a 10) + ((a &&& b) ^^^ (a &&& c) ^^^ (b &&& c))
    [x + y, a, b, c, d + x, e, f, g]
  | v => v
def rds2 : List W → List W → List W → List W
  | k :: ks, x :: xs, v => rds2 ks xs (rd2 k x v)
  | _, _, v => v
def block2 (K : List W) (h : List W) (p : List UInt8) : List W := adds h (rds2 K (ext2 48 (words p)) h)
def start2 : List W := [0x6a09e667#32, 0xbb67ae85#32, 0x3c6ef372#32, 0xa54ff53a#32, 0x510e527f#32, 0x9b05688c#32, 0x1f83d9ab#32, 0x5be0cd19#32]
end ShaM
namespace ShaM
def nxt1 (w : List W) : W := rotl (w.getD (w.length - 3) 0 ^^^ w.getD (w.length - 8) 0 ^^^ w.getD (w.length - 14) 0 ^^^ w.getD (w.length - 16) 0) 1
theorem ext1_snoc : ∀ (n : Nat) (w : List W), ext1 (n + 1) w = ext1 n w ++ [nxt1 (ext1 n w)]
  | 0, w => rfl
  | n + 1, w => by
    show ext1 (n + 1) (w ++ [nxt1 w]) = _
    rw [ext1_snoc n]
    rfl
theorem ext1_length : ∀ (n : Nat) (w : List W), (ext1 n w).length = w.length + n
  | 0, w => rfl
  | n + 1, w => by
    show (ext1 n (w ++ [nxt1 w])).length = _
    rw [ext1_length n, List.length_append, List.length_singleton]; omega
def nxt2 (w : List W) : W :=
  let x := w.getD (w.length - 15) 0
  let y := w.getD (w.length - 2) 0
  w.getD (w.length - 16) 0 + (rotl x 25 ^^^ rotl x 14 ^^^ x >>> 3) + w.getD (w.length - 7) 0 + (rotl y 15 ^^^ rotl y 13 ^^^ y >>> 10)
theorem ext2_snoc : ∀ (n : Nat) (w : List W), ext2 (n + 1) w = ext2 n w ++ [nxt2 (ext2 n w)]
  | 0, w => rfl
  | n + 1, w => by
    show ext2 (n + 1) (w ++ [nxt2 w]) = _
    rw [ext2_snoc n]
    rfl
theorem ext2_length : ∀ (n : Nat) (w : List W), (ext2 n w).length = w.length + n
  | 0, w => rfl
  | n + 1, w => by
    show (ext2 n (w ++ [nxt2 w])).length = _
    rw [ext2_length n, List.length_append, List.length_singleton]; omega
theorem words_length (p : List UInt8) : (words p).length = 16 := by simp [words]
theorem words_take (p : List UInt8) {k : Nat} (h : k < 16) : (words p).take (k + 1) = (words p).take k ++ [be p (4 * k)] := by
  have hl : k < (words p).length := by rw [words_length]; exact h
  rw [List.take_succ_eq_append_getElem hl]
  simp [words]
/-- The first k words of a schedule. -/
def E1 (p : List UInt8) (k : Nat) : List W := if k ≤ 16 then (words p).take k else ext1 (k - 16) (words p)
def E2 (p : List UInt8) (k : Nat) : List W := if k ≤ 16 then (words p).take k else ext2 (k - 16) (words p)
theorem E1_length (p : List UInt8) (k : Nat) : (E1 p k).length = k := by
  unfold E1
  split
  · rw [List.length_take, words_length]; omega
  · rw [ext1_length, words_length]; omega
theorem E2_length (p : List UInt8) (k : Nat) : (E2 p k).length = k := by
  unfold E2
  split
  · rw [List.length_take, words_length]; omega
  · rw [ext2_length, words_length]; omega
theorem E1_low (p : List UInt8) {k : Nat} (h : k < 16) : E1 p (k + 1) = E1 p k ++ [be p (4 * k)] := by
  unfold E1; rw [if_pos (by omega), if_pos (by omega), words_take p h]
theorem E2_low (p : List UInt8) {k : Nat} (h : k < 16) : E2 p (k + 1) = E2 p k ++ [be p (4 * k)] := by
  unfold E2; rw [if_pos (by omega), if_pos (by omega), words_take p h]
theorem E1_ext (p : List UInt8) {k : Nat} (h : 16 ≤ k) : E1 p k = ext1 (k - 16) (words p) := by
  unfold E1
  split
  · have : k = 16 := by omega
    subst this
    rw [List.take_of_length_le (by rw [words_length]; omega)]; rfl
  · rfl
theorem E2_ext (p : List UInt8) {k : Nat} (h : 16 ≤ k) : E2 p k = ext2 (k - 16) (words p) := by
  unfold E2
  split
  · have : k = 16 := by omega
    subst this
    rw [List.take_of_length_le (by rw [words_length]; omega)]; rfl
  · rfl
theorem E1_high (p : List UInt8) {k : Nat} (h : 16 ≤ k) : E1 p (k + 1) = E1 p k ++ [nxt1 (E1 p k)] := by
  rw [E1_ext p h, E1_ext p (by omega), show k + 1 - 16 = (k - 16) + 1 by omega, ext1_snoc]
theorem E2_high (p : List UInt8) {k : Nat} (h : 16 ≤ k) : E2 p (k + 1) = E2 p k ++ [nxt2 (E2 p k)] := by
  rw [E2_ext p h, E2_ext p (by omega), show k + 1 - 16 = (k - 16) + 1 by omega, ext2_snoc]
theorem nxt1_at {w : List W} {k : Nat} (h : w.length = k) : nxt1 w = rotl (w.getD (k - 3) 0 ^^^ w.getD (k - 8) 0 ^^^ w.getD (k - 14) 0 ^^^ w.getD (k - 16) 0) 1 := by unfold nxt1; rw [h]
theorem nxt2_at {w : List W} {k : Nat} (h : w.length = k) : nxt2 w = w.getD (k - 16) 0 + (rotl (w.getD (k - 15) 0) 25 ^^^ rotl (w.getD (k - 15) 0) 14 ^^^ w.getD (k - 15) 0 >>> 3) + w.getD (k - 7) 0 + (rotl (w.getD (k - 2) 0) 15 ^^^ rotl (w.getD (k - 2) 0) 13 ^^^ w.getD (k - 2) 0 >>> 10) := by
  unfold nxt2; rw [h]
theorem rds1_step {i : Nat} {l v : List W} (h : i < l.length) : rds1 i (l.drop i) v = rds1 (i + 1) (l.drop (i + 1)) (rd1 i (l.getD i 0) v) := by
  rw [List.drop_eq_getElem_cons h]
  simp [rds1, h]
end ShaM

/- Formulas of 9 Go functions of this seat (written by a program of the author's, vcgen.py), and that each is enough for the call. No condition. -/
set_option linter.unusedVariables false
namespace Go.Proofs.YtaaimcbicpgjoaaGreatDoor
open Go Vc Go.Proofs
set_option maxRecDepth 100000
/-- sha.word -/
def vc_sha_word (x0 : ByteArray) (w : World) (R : Value → World → Prop) : Prop :=
 (((0 : Int) ≤ (0 : Int) ∧
 0 < (↑(ByteArray.size x0) : Int)) ∧
 ((0 : Int) ≤ (24 : Int) ∧
 (((0 : Int) ≤ (1 : Int) ∧
 1 < (↑(ByteArray.size x0) : Int)) ∧
 ((0 : Int) ≤ (16 : Int) ∧
 (((0 : Int) ≤ (2 : Int) ∧
 2 < (↑(ByteArray.size x0) : Int)) ∧
 ((0 : Int) ≤ (8 : Int) ∧
 (((0 : Int) ≤ (3 : Int) ∧
 3 < (↑(ByteArray.size x0) : Int)) ∧
 ∀ w1 : World,
 (Drew w w1 →
 R (Value.int IntKind.u32 (IntKind.wrap IntKind.u32 (↑(BitVec.toNat (BitVec.ofInt 32 (IntKind.wrap IntKind.u32 (↑(BitVec.toNat (BitVec.ofInt 32 (IntKind.wrap IntKind.u32 (↑(BitVec.toNat (BitVec.ofInt 32 (IntKind.wrap IntKind.u32 (IntKind.wrap IntKind.u32 (byteAt x0 0) * 2 ^ min (Int.toNat 24) 32)) ||| BitVec.ofInt 32 (IntKind.wrap IntKind.u32 (IntKind.wrap IntKind.u32 (byteAt x0 1) * 2 ^ min (Int.toNat 16) 32)))) : Int)) ||| BitVec.ofInt 32 (IntKind.wrap IntKind.u32 (IntKind.wrap IntKind.u32 (byteAt x0 2) * 2 ^ min (Int.toNat 8) 32)))) : Int)) ||| BitVec.ofInt 32 (IntKind.wrap IntKind.u32 (byteAt x0 3)))) : Int))) w1))))))))
theorem vc_sha_word_ok {x0 : ByteArray} {w : World} {R : Value → World → Prop} {R' : Ending → World → Prop} (h : vc_sha_word x0 w R) (hR : ∀ v w', R v w' → R' (.returned v) w') :
    Calls Tryz.prog 95 #[.string x0] w R' :=
  calls_of_body (vs := [(.string x0, false)]) (ty := ty) (ann := ⟨[], [], [(1, .quiet)], []⟩) (c := Tryz.f95.body.getD .skip) (by kernel_rfl) Tryz.func95 (by kernel_rfl) (by kernel_rfl) (Eq.mp (by kernel_rfl) h) hR
/-- math/bits.RotateLeft32 -/
def vc_bits_RotateLeft32 (x0 : Int) (x1 : Int) (w : World) (R : Value → World → Prop) : Prop :=
 (0 ≤ IntKind.wrap IntKind.u64 (↑(BitVec.toNat (BitVec.ofInt 64 (IntKind.wrap IntKind.u64 x1) &&& BitVec.ofInt 64 31)) : Int) ∧
 (0 ≤ IntKind.wrap IntKind.u64 (32 - IntKind.wrap IntKind.u64 (↑(BitVec.toNat (BitVec.ofInt 64 (IntKind.wrap IntKind.u64 x1) &&& BitVec.ofInt 64 31)) : Int)) ∧
 R (Value.int IntKind.u32 (IntKind.wrap IntKind.u32 (↑(BitVec.toNat (BitVec.ofInt 32 (IntKind.wrap IntKind.u32 (x0 * 2 ^ min (Int.toNat (IntKind.wrap IntKind.u64 (↑(BitVec.toNat (BitVec.ofInt 64 (IntKind.wrap IntKind.u64 x1) &&& BitVec.ofInt 64 31)) : Int))) 32)) ||| BitVec.ofInt 32 (Int.fdiv x0 (2 ^ min (Int.toNat (IntKind.wrap IntKind.u64 (32 - IntKind.wrap IntKind.u64 (↑(BitVec.toNat (BitVec.ofInt 64 (IntKind.wrap IntKind.u64 x1) &&& BitVec.ofInt 64 31)) : Int)))) 32)))) : Int))) w))
theorem vc_bits_RotateLeft32_ok {x0 : Int} {x1 : Int} {w : World} {R : Value → World → Prop} {R' : Ending → World → Prop} (h : vc_bits_RotateLeft32 x0 x1 w R) (hR : ∀ v w', R v w' → R' (.returned v) w') :
    Calls Tryz.prog 96 #[.int .u32 x0, .int .i64 x1] w R' :=
  calls_of_body (vs := [(.int .u32 x0, false), (.int .i64 x1, false)]) (ty := ty) (ann := ⟨[], [], [], []⟩) (c := Tryz.f96.body.getD .skip) (by kernel_rfl) Tryz.func96 (by kernel_rfl) (by kernel_rfl) (Eq.mp (by kernel_rfl) h) hR
/-- sha.start1 -/
def vc_sha_start1 (w : World) (R : Value → World → Prop) : Prop :=
 ∀ w1 : World,
 (w1 = World.alloc w (Obj.cells (Array.mk [Value.int IntKind.u32 1732584193, Value.int IntKind.u32 4023233417, Value.int IntKind.u32 2562383102, Value.int IntKind.u32 271733878, Value.int IntKind.u32 3285377520]) 31) →
 R (Value.slice (some (Addr.mk (Array.size (World.heap w)) 0 none)) 5 5) w1)
theorem vc_sha_start1_ok {w : World} {R : Value → World → Prop} {R' : Ending → World → Prop} (h : vc_sha_start1 w R) (hR : ∀ v w', R v w' → R' (.returned v) w') :
    Calls Tryz.prog 72 #[] w R' :=
  calls_of_body (vs := []) (ty := ty) (ann := ⟨[], [], [], []⟩) (c := Tryz.f72.body.getD .skip) (by kernel_rfl) Tryz.func72 (by kernel_rfl) (by kernel_rfl) (Eq.mp (by kernel_rfl) h) hR
/-- sha.block1 -/
def vc_sha_block1 (x0a : Option Addr) (x0n : Nat) (x0c : Nat) (x1 : ByteArray) (w : World) (R : Value → World → Prop) : Prop :=
 ∀ w1 : World,
 (w1 = World.alloc w (Obj.cells (Array.mk [Value.int IntKind.u32 0, Value.int IntKind.u32 0, Value.int IntKind.u32 0, Value.int IntKind.u32 0, Value.int IntKind.u32 0, Value.int IntKind.u32 0, Value.int IntKind.u32 0, Value.int IntKind.u32 0, Value.int IntKind.u32 0, Value.int IntKind.u32 0, Value.int IntKind.u32 0, Value.int IntKind.u32 0, Value.int IntKind.u32 0, Value.int IntKind.u32 0, Value.int IntKind.u32 0, Value.int IntKind.u32 0, Value.int IntKind.u32 0, Value.int IntKind.u32 0, Value.int IntKind.u32 0, Value.int IntKind.u32 0, Value.int IntKind.u32 0, Value.int IntKind.u32 0, Value.int IntKind.u32 0, Value.int IntKind.u32 0, Value.int IntKind.u32 0, Value.int IntKind.u32 0, Value.int IntKind.u32 0, Value.int IntKind.u32 0, Value.int IntKind.u32 0, Value.int IntKind.u32 0, Value.int IntKind.u32 0, Value.int IntKind.u32 0, Value.int IntKind.u32 0, Value.int IntKind.u32 0, Value.int IntKind.u32 0, Value.int IntKind.u32 0, Value.int IntKind.u32 0, Value.int IntKind.u32 0, Value.int IntKind.u32 0, Value.int IntKind.u32 0, Value.int IntKind.u32 0, Value.int IntKind.u32 0, Value.int IntKind.u32 0, Value.int IntKind.u32 0, Value.int IntKind.u32 0, Value.int IntKind.u32 0, Value.int IntKind.u32 0, Value.int IntKind.u32 0, Value.int IntKind.u32 0, Value.int IntKind.u32 0, Value.int IntKind.u32 0, Value.int IntKind.u32 0, Value.int IntKind.u32 0, Value.int IntKind.u32 0, Value.int IntKind.u32 0, Value.int IntKind.u32 0, Value.int IntKind.u32 0, Value.int IntKind.u32 0, Value.int IntKind.u32 0, Value.int IntKind.u32 0, Value.int IntKind.u32 0, Value.int IntKind.u32 0, Value.int IntKind.u32 0, Value.int IntKind.u32 0, Value.int IntKind.u32 0, Value.int IntKind.u32 0, Value.int IntKind.u32 0, Value.int IntKind.u32 0, Value.int IntKind.u32 0, Value.int IntKind.u32 0, Value.int IntKind.u32 0, Value.int IntKind.u32 0, Value.int IntKind.u32 0, Value.int IntKind.u32 0, Value.int IntKind.u32 0, Value.int IntKind.u32 0, Value.int IntKind.u32 0, Value.int IntKind.u32 0, Value.int IntKind.u32 0, Value.int IntKind.u32 0]) 150) →
 ∃ I2 : Int → World → Prop, ∃ I3 : Int → World → Nat, (I2 0 w1 ∧
 ∀ n4 : Int,
 ∀ w5 : World,
 (I2 n4 w5 →
 (((decide (n4 < 80) = true →
 (((decide (n4 < 16) = true →
 ((0 ≤ IntKind.wrap IntKind.i64 (4 * n4) ∧
 IntKind.wrap IntKind.i64 (4 * n4) ≤ (↑(ByteArray.size x1) : Int)) ∧
 Calls Tryz.prog (95 : Nat) (Array.mk [Value.string (ByteArray.extract x1 (Int.toNat (IntKind.wrap IntKind.i64 (4 * n4))) (ByteArray.size x1))]) (w5) (fun e6 w7 =>
 ∃ n8 : Int, (e6 = Ending.returned (Value.int IntKind.u32 n8) ∧
 ((0 ≤ n4 ∧
 n4 < (↑80 : Int)) ∧
 (Wr w7 (Addr.add (Addr.mk (Array.size (World.heap w)) 0 none) (Int.toNat n4 * 1)) ∧
 ∀ w9 : World,
 (w9 = World.setCell w7 (Addr.add (Addr.mk (Array.size (World.heap w)) 0 none) (Int.toNat n4 * 1)) (Value.int IntKind.u32 n8) →
 (I2 (IntKind.wrap IntKind.i64 (n4 + 1)) w9 ∧
 I3 (IntKind.wrap IntKind.i64 (n4 + 1)) w9 < I3 n4 w5))))))))) ∧
 (decide (n4 < 16) = false →
 ∀ w10 : World,
 (Drew w5 w10 →
 ∃ I11 : World → Prop, (I11 w10 ∧
 ((0 ≤ IntKind.wrap IntKind.i64 (n4 - 3) ∧
 IntKind.wrap IntKind.i64 (n4 - 3) < (↑80 : Int)) ∧
 ∃ n12 : Int, ((∀ w13 : World,
 (I11 w13 →
 World.cell? w13 (Addr.add (Addr.mk (Array.size (World.heap w)) 0 none) (Int.toNat (IntKind.wrap IntKind.i64 (n4 - 3)) * 1)) = some (Value.int IntKind.u32 n12))) ∧
 ((0 ≤ IntKind.wrap IntKind.i64 (n4 - 8) ∧
 IntKind.wrap IntKind.i64 (n4 - 8) < (↑80 : Int)) ∧
 ∃ n14 : Int, ((∀ w15 : World,
 (I11 w15 →
 World.cell? w15 (Addr.add (Addr.mk (Array.size (World.heap w)) 0 none) (Int.toNat (IntKind.wrap IntKind.i64 (n4 - 8)) * 1)) = some (Value.int IntKind.u32 n14))) ∧
 ((0 ≤ IntKind.wrap IntKind.i64 (n4 - 14) ∧
 IntKind.wrap IntKind.i64 (n4 - 14) < (↑80 : Int)) ∧
 ∃ n16 : Int, ((∀ w17 : World,
 (I11 w17 →
 World.cell? w17 (Addr.add (Addr.mk (Array.size (World.heap w)) 0 none) (Int.toNat (IntKind.wrap IntKind.i64 (n4 - 14)) * 1)) = some (Value.int IntKind.u32 n16))) ∧
 ((0 ≤ IntKind.wrap IntKind.i64 (n4 - 16) ∧
 IntKind.wrap IntKind.i64 (n4 - 16) < (↑80 : Int)) ∧
 ∃ n18 : Int, ((∀ w19 : World,
 (I11 w19 →
 World.cell? w19 (Addr.add (Addr.mk (Array.size (World.heap w)) 0 none) (Int.toNat (IntKind.wrap IntKind.i64 (n4 - 16)) * 1)) = some (Value.int IntKind.u32 n18))) ∧
 Calls Tryz.prog (96 : Nat) (Array.mk [Value.int IntKind.u32 (IntKind.wrap IntKind.u32 (↑(BitVec.toNat (BitVec.ofInt 32 (IntKind.wrap IntKind.u32 (↑(BitVec.toNat (BitVec.ofInt 32 (IntKind.wrap IntKind.u32 (↑(BitVec.toNat (BitVec.ofInt 32 n12 ^^^ BitVec.ofInt 32 n14)) : Int)) ^^^ BitVec.ofInt 32 n16)) : Int)) ^^^ BitVec.ofInt 32 n18)) : Int)), Value.int IntKind.i64 1]) (w10) (fun e20 w21 =>
 ∃ n22 : Int, (e20 = Ending.returned (Value.int IntKind.u32 n22) ∧
 (I11 w21 ∧
 ((0 ≤ n4 ∧
 n4 < (↑80 : Int)) ∧
 (Wr w21 (Addr.add (Addr.mk (Array.size (World.heap w)) 0 none) (Int.toNat n4 * 1)) ∧
 ∀ w23 : World,
 (w23 = World.setCell w21 (Addr.add (Addr.mk (Array.size (World.heap w)) 0 none) (Int.toNat n4 * 1)) (Value.int IntKind.u32 n22) →
 (I2 (IntKind.wrap IntKind.i64 (n4 + 1)) w23 ∧
 I3 (IntKind.wrap IntKind.i64 (n4 + 1)) w23 < I3 n4 w5))))))))))))))))))))) ∧
 (decide (n4 < 80) = false →
 (((0 : Int) ≤ (0 : Int) ∧
 0 < (↑x0n : Int)) ∧
 ∃ a24 : Addr, (x0a = some a24 ∧
 ∃ n25 : Int, (World.cell? w5 (Addr.add a24 (Int.toNat 0 * 1)) = some (Value.int IntKind.u32 n25) ∧
 (((0 : Int) ≤ (1 : Int) ∧
 1 < (↑x0n : Int)) ∧
 ∃ a26 : Addr, (x0a = some a26 ∧
 ∃ n27 : Int, (World.cell? w5 (Addr.add a26 (Int.toNat 1 * 1)) = some (Value.int IntKind.u32 n27) ∧
 (((0 : Int) ≤ (2 : Int) ∧
 2 < (↑x0n : Int)) ∧
 ∃ a28 : Addr, (x0a = some a28 ∧
 ∃ n29 : Int, (World.cell? w5 (Addr.add a28 (Int.toNat 2 * 1)) = some (Value.int IntKind.u32 n29) ∧
 (((0 : Int) ≤ (3 : Int) ∧
 3 < (↑x0n : Int)) ∧
 ∃ a30 : Addr, (x0a = some a30 ∧
 ∃ n31 : Int, (World.cell? w5 (Addr.add a30 (Int.toNat 3 * 1)) = some (Value.int IntKind.u32 n31) ∧
 (((0 : Int) ≤ (4 : Int) ∧
 4 < (↑x0n : Int)) ∧
 ∃ a32 : Addr, (x0a = some a32 ∧
 ∃ n33 : Int, (World.cell? w5 (Addr.add a32 (Int.toNat 4 * 1)) = some (Value.int IntKind.u32 n33) ∧
 ∀ w34 : World,
 (Drew w5 w34 →
 ∃ v35 : Value, (Sem.run Tryz.prog (loadVar 150 (Addr.mk (Array.size (World.heap w)) 0 none)) w34 = Result.ok v35 w34 ∧
 ∃ I36 : Int → Int → Int → Int → Int → Int → World → Prop, ∃ I37 : Int → Int → Int → Int → Int → Int → World → Nat, (I36 n25 n27 n29 n31 n33 0 w34 ∧
 ∀ n38 : Int,
 ∀ n39 : Int,
 ∀ n40 : Int,
 ∀ n41 : Int,
 ∀ n42 : Int,
 ∀ n43 : Int,
 ∀ w44 : World,
 (I36 n38 n39 n40 n41 n42 n43 w44 →
 (((decide (n43 < 80) = true →
 ∃ w45 : World, ∃ n46 : Int, (Sem.run Tryz.prog (Instr.index 150 v35 (Value.int IntKind.i64 n43)) w44 = Result.ok (Value.int IntKind.u32 n46) w45 ∧
 ∃ I47 : Int → Int → World → Prop, (((20 : Int) ≠ (0 : Int) ∧
 ((((IntKind.wrap IntKind.i64 (Int.tdiv n43 20) == 0) = true →
 (I47 (IntKind.wrap IntKind.u32 (↑(BitVec.toNat (BitVec.ofInt 32 (IntKind.wrap IntKind.u32 (↑(BitVec.toNat (BitVec.ofInt 32 n39 &&& BitVec.ofInt 32 n40)) : Int)) ||| BitVec.ofInt 32 (IntKind.wrap IntKind.u32 (↑(BitVec.toNat (BitVec.ofInt 32 (IntKind.wrap IntKind.u32 (↑(BitVec.toNat (BitVec.ofInt 32 (if IntKind.signed IntKind.u32 = true then -1 else Int.ofNat (2 ^ 32 - Nat.succ 0)) ^^^ BitVec.ofInt 32 n39)) : Int)) &&& BitVec.ofInt 32 n41)) : Int)))) : Int)) 1518500249 w45))) ∧
 ((IntKind.wrap IntKind.i64 (Int.tdiv n43 20) == 0) = false →
 ((((IntKind.wrap IntKind.i64 (Int.tdiv n43 20) == 1) = true →
 I47 (IntKind.wrap IntKind.u32 (↑(BitVec.toNat (BitVec.ofInt 32 (IntKind.wrap IntKind.u32 (↑(BitVec.toNat (BitVec.ofInt 32 n39 ^^^ BitVec.ofInt 32 n40)) : Int)) ^^^ BitVec.ofInt 32 n41)) : Int)) 1859775393 w45)) ∧
 ((IntKind.wrap IntKind.i64 (Int.tdiv n43 20) == 1) = false →
 ((((IntKind.wrap IntKind.i64 (Int.tdiv n43 20) == 2) = true →
 I47 (IntKind.wrap IntKind.u32 (↑(BitVec.toNat (BitVec.ofInt 32 (IntKind.wrap IntKind.u32 (↑(BitVec.toNat (BitVec.ofInt 32 (IntKind.wrap IntKind.u32 (↑(BitVec.toNat (BitVec.ofInt 32 n39 &&& BitVec.ofInt 32 n40)) : Int)) ||| BitVec.ofInt 32 (IntKind.wrap IntKind.u32 (↑(BitVec.toNat (BitVec.ofInt 32 n39 &&& BitVec.ofInt 32 n41)) : Int)))) : Int)) ||| BitVec.ofInt 32 (IntKind.wrap IntKind.u32 (↑(BitVec.toNat (BitVec.ofInt 32 n40 &&& BitVec.ofInt 32 n41)) : Int)))) : Int)) 2400959708 w45)) ∧
 ((IntKind.wrap IntKind.i64 (Int.tdiv n43 20) == 2) = false →
 I47 (IntKind.wrap IntKind.u32 (↑(BitVec.toNat (BitVec.ofInt 32 (IntKind.wrap IntKind.u32 (↑(BitVec.toNat (BitVec.ofInt 32 n39 ^^^ BitVec.ofInt 32 n40)) : Int)) ^^^ BitVec.ofInt 32 n41)) : Int)) 3395469782 w45))))))) ∧
 ∀ n48 : Int,
 ∀ n49 : Int,
 ∀ w50 : World,
 (I47 n48 n49 w50 →
 Calls Tryz.prog (96 : Nat) (Array.mk [Value.int IntKind.u32 n38, Value.int IntKind.i64 5]) (w50) (fun e51 w52 =>
 ∃ n53 : Int, (e51 = Ending.returned (Value.int IntKind.u32 n53) ∧
 Calls Tryz.prog (96 : Nat) (Array.mk [Value.int IntKind.u32 n39, Value.int IntKind.i64 30]) (w52) (fun e54 w55 =>
 ∃ n56 : Int, (e54 = Ending.returned (Value.int IntKind.u32 n56) ∧
 (I36 (IntKind.wrap IntKind.u32 (IntKind.wrap IntKind.u32 (IntKind.wrap IntKind.u32 (IntKind.wrap IntKind.u32 (n53 + n48) + n42) + n49) + n46)) n38 n56 n40 n41 (IntKind.wrap IntKind.i64 (n43 + 1)) w55 ∧
 I37 (IntKind.wrap IntKind.u32 (IntKind.wrap IntKind.u32 (IntKind.wrap IntKind.u32 (IntKind.wrap IntKind.u32 (n53 + n48) + n42) + n49) + n46)) n38 n56 n40 n41 (IntKind.wrap IntKind.i64 (n43 + 1)) w55 < I37 n38 n39 n40 n41 n42 n43 w44)))))))))) ∧
 (decide (n43 < 80) = false →
 (((0 : Int) ≤ (0 : Int) ∧
 0 < (↑x0n : Int)) ∧
 ∃ a57 : Addr, (x0a = some a57 ∧
 ∃ n58 : Int, (World.cell? w44 (Addr.add a57 (Int.toNat 0 * 1)) = some (Value.int IntKind.u32 n58) ∧
 (((0 : Int) ≤ (0 : Int) ∧
 0 < (↑x0n : Int)) ∧
 ∃ a59 : Addr, (x0a = some a59 ∧
 (Wr w44 (Addr.add a59 (Int.toNat 0 * 1)) ∧
 ∀ w60 : World,
 (w60 = World.setCell w44 (Addr.add a59 (Int.toNat 0 * 1)) (Value.int IntKind.u32 (IntKind.wrap IntKind.u32 (n58 + n38))) →
 (((0 : Int) ≤ (1 : Int) ∧
 1 < (↑x0n : Int)) ∧
 ∃ a61 : Addr, (x0a = some a61 ∧
 ∃ n62 : Int, (World.cell? w60 (Addr.add a61 (Int.toNat 1 * 1)) = some (Value.int IntKind.u32 n62) ∧
 (((0 : Int) ≤ (1 : Int) ∧
 1 < (↑x0n : Int)) ∧
 ∃ a63 : Addr, (x0a = some a63 ∧
 (Wr w60 (Addr.add a63 (Int.toNat 1 * 1)) ∧
 ∀ w64 : World,
 (w64 = World.setCell w60 (Addr.add a63 (Int.toNat 1 * 1)) (Value.int IntKind.u32 (IntKind.wrap IntKind.u32 (n62 + n39))) →
 (((0 : Int) ≤ (2 : Int) ∧
 2 < (↑x0n : Int)) ∧
 ∃ a65 : Addr, (x0a = some a65 ∧
 ∃ n66 : Int, (World.cell? w64 (Addr.add a65 (Int.toNat 2 * 1)) = some (Value.int IntKind.u32 n66) ∧
 (((0 : Int) ≤ (2 : Int) ∧
 2 < (↑x0n : Int)) ∧
 ∃ a67 : Addr, (x0a = some a67 ∧
 (Wr w64 (Addr.add a67 (Int.toNat 2 * 1)) ∧
 ∀ w68 : World,
 (w68 = World.setCell w64 (Addr.add a67 (Int.toNat 2 * 1)) (Value.int IntKind.u32 (IntKind.wrap IntKind.u32 (n66 + n40))) →
 (((0 : Int) ≤ (3 : Int) ∧
 3 < (↑x0n : Int)) ∧
 ∃ a69 : Addr, (x0a = some a69 ∧
 ∃ n70 : Int, (World.cell? w68 (Addr.add a69 (Int.toNat 3 * 1)) = some (Value.int IntKind.u32 n70) ∧
 (((0 : Int) ≤ (3 : Int) ∧
 3 < (↑x0n : Int)) ∧
 ∃ a71 : Addr, (x0a = some a71 ∧
 (Wr w68 (Addr.add a71 (Int.toNat 3 * 1)) ∧
 ∀ w72 : World,
 (w72 = World.setCell w68 (Addr.add a71 (Int.toNat 3 * 1)) (Value.int IntKind.u32 (IntKind.wrap IntKind.u32 (n70 + n41))) →
 (((0 : Int) ≤ (4 : Int) ∧
 4 < (↑x0n : Int)) ∧
 ∃ a73 : Addr, (x0a = some a73 ∧
 ∃ n74 : Int, (World.cell? w72 (Addr.add a73 (Int.toNat 4 * 1)) = some (Value.int IntKind.u32 n74) ∧
 (((0 : Int) ≤ (4 : Int) ∧
 4 < (↑x0n : Int)) ∧
 ∃ a75 : Addr, (x0a = some a75 ∧
 (Wr w72 (Addr.add a75 (Int.toNat 4 * 1)) ∧
 ∀ w76 : World,
 (w76 = World.setCell w72 (Addr.add a75 (Int.toNat 4 * 1)) (Value.int IntKind.u32 (IntKind.wrap IntKind.u32 (n74 + n42))) →
 R (Value.tuple (Array.mk [])) w76)))))))))))))))))))))))))))))))))))))))))))))))))))))))))))))
theorem vc_sha_block1_ok {x0a : Option Addr} {x0n : Nat} {x0c : Nat} {x1 : ByteArray} {w : World} {R : Value → World → Prop} {R' : Ending → World → Prop} (h : vc_sha_block1 x0a x0n x0c x1 w R) (hR : ∀ v w', R v w' → R' (.returned v) w') :
    Calls Tryz.prog 73 #[.slice x0a x0n x0c, .string x1] w R' :=
  calls_of_body (vs := [(.slice x0a x0n x0c, false), (.string x1, false)]) (ty := ty) (ann := ⟨[(20, [(13, .int .u32), (14, .int .u32)])], [(2, [(15, .int .i64)]), (10, [(6, .int .u32), (7, .int .u32), (8, .int .u32), (9, .int .u32), (10, .int .u32), (66, .int .i64)])], [(6, .held [(0, true), (1, true), (2, true), (3, true), (4, true), (5, true), (6, true), (7, true), (8, true), (9, true), (10, true), (11, true), (12, true), (13, true), (14, true), (15, true), (16, true), (17, true), (18, true), (19, true), (20, false), (21, true), (22, false)]), (8, .quiet)], []⟩) (c := Tryz.f73.body.getD .skip) (by kernel_rfl) Tryz.func73 (by kernel_rfl) (by kernel_rfl) (Eq.mp (by kernel_rfl) h) hR
/-- (*sha.hash).write#1 -/
def vc_sha_hash_write_1 (x0 : Nat) (x1 : ByteArray) (x2a : Option Addr) (x2n : Nat) (x2c : Nat) (w : World) (R : Value → World → Prop) : Prop :=
 ∃ I1 : World → Prop, ((∃ l2 : Sl, (World.cell? w (Addr.mk x0 0 none) = some (Value.slice l2.1 l2.2 l2.3) ∧
 (((Option.isNone l2.1 = true →
 ∃ w3 : World, ∃ l4 : Sl, (Sem.run Tryz.prog (Builtin.append_ (Array.mk [100, 100]) 100 (Array.mk [Value.slice none 0 0, Value.slice x2a x2n x2c])) w = Result.ok (Value.slice l4.1 l4.2 l4.3) w3 ∧
 (Wr w3 (Addr.mk x0 0 none) ∧
 ∀ w5 : World,
 (w5 = World.setCell w3 (Addr.mk x0 0 none) (Value.slice l4.1 l4.2 l4.3) →
 I1 w5))))) ∧
 (Option.isNone l2.1 = false →
 I1 w)))) ∧
 ∀ w6 : World,
 (I1 w6 →
 ∃ n7 : Int, (World.cell? w6 (Addr.mk x0 2 none) = some (Value.int IntKind.u64 n7) ∧
 (Wr w6 (Addr.mk x0 2 none) ∧
 ∀ w8 : World,
 (w8 = World.setCell w6 (Addr.mk x0 2 none) (Value.int IntKind.u64 (IntKind.wrap IntKind.u64 (n7 + IntKind.wrap IntKind.u64 (↑(ByteArray.size x1) : Int)))) →
 ∃ s9 : ByteArray, (World.cell? w8 (Addr.mk x0 1 none) = some (Value.string s9) ∧
 (ByteArray.size s9 + ByteArray.size x1 ≤ 9223372036854775807 ∧
 ∃ I10 : ByteArray → World → Prop, ∃ I11 : ByteArray → World → Nat, (I10 (s9 ++ x1) w8 ∧
 ∀ s12 : ByteArray,
 ∀ w13 : World,
 (I10 s12 w13 →
 (((decide ((↑(ByteArray.size s12) : Int) ≥ 64) = true →
 ∀ w14 : World,
 (Drew w13 w14 →
 ∃ I15 : World → Prop, (I15 w14 ∧
 ∃ l16 : Sl, ((∀ w17 : World,
 (I15 w17 →
 World.cell? w17 (Addr.mk x0 0 none) = some (Value.slice l16.1 l16.2 l16.3))) ∧
 (((0 : Int) ≤ (64 : Int) ∧
 64 ≤ (↑(ByteArray.size s12) : Int)) ∧
 Calls Tryz.prog (73 : FuncId) (Array.mk [Value.slice l16.1 l16.2 l16.3, Value.string (ByteArray.extract s12 0 (Int.toNat 64))]) (w14) (fun e18 w19 =>
 (e18 = Ending.returned (Value.tuple (Array.mk [])) ∧
 (((0 : Int) ≤ (64 : Int) ∧
 64 ≤ (↑(ByteArray.size s12) : Int)) ∧
 (I10 (ByteArray.extract s12 (Int.toNat 64) (ByteArray.size s12)) w19 ∧
 I11 (ByteArray.extract s12 (Int.toNat 64) (ByteArray.size s12)) w19 < I11 s12 w13)))))))))) ∧
 (decide ((↑(ByteArray.size s12) : Int) ≥ 64) = false →
 (Wr w13 (Addr.mk x0 1 none) ∧
 ∀ w20 : World,
 (w20 = World.setCell w13 (Addr.mk x0 1 none) (Value.string s12) →
 R (Value.tuple (Array.mk [])) w20)))))))))))))
theorem vc_sha_hash_write_1_ok {x0 : Nat} {x1 : ByteArray} {x2a : Option Addr} {x2n : Nat} {x2c : Nat} {w : World} {R : Value → World → Prop} {R' : Ending → World → Prop} (h : vc_sha_hash_write_1 x0 x1 x2a x2n x2c w R) (hR : ∀ v w', R v w' → R' (.returned v) w') :
    Calls Tryz.prog 71 #[.pointer (some ⟨x0, 0, none⟩), .string x1, .slice x2a x2n x2c, .func (.func 73) #[] #[]] w R' :=
  calls_of_body (vs := [(.pointer (some ⟨x0, 0, none⟩), true), (.string x1, false), (.slice x2a x2n x2c, false), (.func (.func 73) #[] #[], false)]) (ty := ty) (ann := ⟨[(2, [])], [(4, [(1, .str)])], [(5, .held [(0, true), (1, true), (2, true), (3, true), (4, true), (5, true), (6, true), (7, false)])], []⟩) (c := Tryz.f71.body.getD .skip) (by kernel_rfl) Tryz.func71 (by kernel_rfl) (by kernel_rfl) (Eq.mp (by kernel_rfl) h) hR
/-- (*sha.hash).sum#1 -/
def vc_sha_hash_sum_1 (x0 : Nat) (x1a : Option Addr) (x1n : Nat) (x1c : Nat) (w : World) (R : Value → World → Prop) : Prop :=
 ∃ I1 : Addr → World → Prop, ((∀ w2 : World,
 (Drew w w2 →
 ∃ I3 : World → Prop, (I3 w2 ∧
 ∃ l4 : Sl, ((∀ w5 : World,
 (I3 w5 →
 World.cell? w5 (Addr.mk x0 0 none) = some (Value.slice l4.1 l4.2 l4.3))) ∧
 ∃ s6 : ByteArray, ((∀ w7 : World,
 (I3 w7 →
 World.cell? w7 (Addr.mk x0 1 none) = some (Value.string s6))) ∧
 ∃ n8 : Int, ((∀ w9 : World,
 (I3 w9 →
 World.cell? w9 (Addr.mk x0 2 none) = some (Value.int IntKind.u64 n8))) ∧
 ((∃ w10 : World, ∃ l11 : Sl, (Sem.run Tryz.prog (Builtin.append_ (Array.mk [100, 100]) 100 (Array.mk [Value.slice none 0 0, Value.slice l4.1 l4.2 l4.3])) w2 = Result.ok (Value.slice l11.1 l11.2 l11.3) w10 ∧
 (I3 w10 ∧
 ∀ w12 : World,
 (w12 = World.alloc w10 (Obj.cells (Array.mk [Value.slice none 0 0, Value.string (ByteArray.mk (Array.mk [])), Value.int IntKind.u64 0]) 102) →
 (I3 w12 ∧
 ∃ w13 : World, (Sem.run Tryz.prog (storeVar 102 (Addr.mk (Array.size (World.heap w10)) 0 none) (Value.agg (Array.mk [Value.slice l11.1 l11.2 l11.3, Value.string s6, Value.int IntKind.u64 n8]))) w12 = Result.ok PUnit.unit w13 ∧
 I1 (Addr.mk (Array.size (World.heap w10)) 0 none) w13)))))) ∧
 ∀ w14 : World,
 (w14 = World.alloc w2 (Obj.cells (Array.mk [Value.slice none 0 0, Value.string (ByteArray.mk (Array.mk [])), Value.int IntKind.u64 0]) 102) →
 (I3 w14 ∧
 ∃ w15 : World, ∃ l16 : Sl, (Sem.run Tryz.prog (Builtin.append_ (Array.mk [100, 100]) 100 (Array.mk [Value.slice none 0 0, Value.slice l4.1 l4.2 l4.3])) w14 = Result.ok (Value.slice l16.1 l16.2 l16.3) w15 ∧
 (I3 w15 ∧
 ∃ w17 : World, (Sem.run Tryz.prog (storeVar 102 (Addr.mk (Array.size (World.heap w2)) 0 none) (Value.agg (Array.mk [Value.slice l16.1 l16.2 l16.3, Value.string s6, Value.int IntKind.u64 n8]))) w15 = Result.ok PUnit.unit w17 ∧
 I1 (Addr.mk (Array.size (World.heap w2)) 0 none) w17)))))))))))) ∧
 ∀ a18 : Addr,
 ∀ w19 : World,
 (I1 a18 w19 →
 ∃ I20 : World → Prop, ((∃ l21 : Sl, (World.cell? w19 (Addr.mk x0 0 none) = some (Value.slice l21.1 l21.2 l21.3) ∧
 (((Option.isNone l21.1 = true →
 (Wr w19 a18 ∧
 ∀ w22 : World,
 (w22 = World.setCell w19 a18 (Value.slice none 0 0) →
 I20 w22)))) ∧
 (Option.isNone l21.1 = false →
 I20 w19)))) ∧
 ∀ w23 : World,
 (I20 w23 →
 ∃ I24 : ByteArray → World → Prop, ∃ I25 : ByteArray → World → Nat, (I24 (ByteArray.mk (Array.mk [128])) w23 ∧
 ∀ s26 : ByteArray,
 ∀ w27 : World,
 (I24 s26 w27 →
 ∃ s28 : ByteArray, (World.cell? w27 (Addr.mk x0 1 none) = some (Value.string s28) ∧
 ((64 : Int) ≠ (0 : Int) ∧
 ((((Int.tmod (IntKind.wrap IntKind.i64 ((↑(ByteArray.size s28) : Int) + (↑(ByteArray.size s26) : Int))) 64 != 56) = true →
 (ByteArray.size s26 + ByteArray.size (ByteArray.mk (Array.mk [0])) ≤ 9223372036854775807 ∧
 (I24 (s26 ++ ByteArray.mk (Array.mk [0])) w27 ∧
 I25 (s26 ++ ByteArray.mk (Array.mk [0])) w27 < I25 s26 w27)))) ∧
 ((Int.tmod (IntKind.wrap IntKind.i64 ((↑(ByteArray.size s28) : Int) + (↑(ByteArray.size s26) : Int))) 64 != 56) = false →
 ∃ I29 : Sl → Int → World → Prop, ∃ I30 : Sl → Int → World → Nat, (I29 (Sl.mk none 0 0) 56 w27 ∧
 ∀ l31 : Sl,
 ∀ n32 : Int,
 ∀ w33 : World,
 (I29 l31 n32 w33 →
 (((decide (n32 ≥ 0) = true →
 ∃ n34 : Int, (World.cell? w33 (Addr.mk x0 2 none) = some (Value.int IntKind.u64 n34) ∧
 (0 ≤ n32 ∧
 ∀ w35 : World,
 (w35 = World.alloc w33 (Obj.cells (Array.mk [Value.int IntKind.u8 (IntKind.wrap IntKind.u8 (Int.fdiv (IntKind.wrap IntKind.u64 (n34 * 8)) (2 ^ min (Int.toNat n32) 64)))]) 5) →
 ∃ w36 : World, ∃ l37 : Sl, (Sem.run Tryz.prog (Builtin.append_ (Array.mk [60, 60]) 60 (Array.mk [Value.slice l31.1 l31.2 l31.3, Value.slice (some (Addr.mk (Array.size (World.heap w33)) 0 none)) 1 1])) w35 = Result.ok (Value.slice l37.1 l37.2 l37.3) w36 ∧
 (I29 (Sl.mk l37.1 l37.2 l37.3) (IntKind.wrap IntKind.i64 (n32 - 8)) w36 ∧
 I30 (Sl.mk l37.1 l37.2 l37.3) (IntKind.wrap IntKind.i64 (n32 - 8)) w36 < I30 l31 n32 w33))))))) ∧
 (decide (n32 ≥ 0) = false →
 ∃ w38 : World, ∃ s39 : ByteArray, (Sem.run Tryz.prog (convert 60 9 (Value.slice l31.1 l31.2 l31.3)) w33 = Result.ok (Value.string s39) w38 ∧
 (ByteArray.size s26 + ByteArray.size s39 ≤ 9223372036854775807 ∧
 Calls Tryz.prog (71 : Nat) (Array.mk [Value.pointer (some a18), Value.string (s26 ++ s39), Value.slice x1a x1n x1c, Value.func (Fn.func 73) (Array.mk []) (Array.mk [])]) (w38) (fun e40 w41 =>
 (e40 = Ending.returned (Value.tuple (Array.mk [])) ∧
 ∃ l42 : Sl, (World.cell? w41 a18 = some (Value.slice l42.1 l42.2 l42.3) ∧
 ∃ I43 : Sl → Int → World → Prop, ∃ I44 : Sl → Int → World → Nat, (I43 (Sl.mk none 0 0) 0 w41 ∧
 ∀ l45 : Sl,
 ∀ n46 : Int,
 ∀ w47 : World,
 (I43 l45 n46 w47 →
 (((decide (n46 < (↑l42.2 : Int)) = true →
 ((0 ≤ n46 ∧
 n46 < (↑l42.2 : Int)) ∧
 ∃ a48 : Addr, (l42.1 = some a48 ∧
 ∃ n49 : Int, (World.cell? w47 (Addr.add a48 (Int.toNat n46 * 1)) = some (Value.int IntKind.u32 n49) ∧
 ((0 : Int) ≤ (24 : Int) ∧
 ((0 : Int) ≤ (16 : Int) ∧
 ((0 : Int) ≤ (8 : Int) ∧
 ∀ w50 : World,
 (w50 = World.alloc w47 (Obj.cells (Array.mk [Value.int IntKind.u8 (IntKind.wrap IntKind.u8 (Int.fdiv n49 (2 ^ min (Int.toNat 24) 32))), Value.int IntKind.u8 (IntKind.wrap IntKind.u8 (Int.fdiv n49 (2 ^ min (Int.toNat 16) 32))), Value.int IntKind.u8 (IntKind.wrap IntKind.u8 (Int.fdiv n49 (2 ^ min (Int.toNat 8) 32))), Value.int IntKind.u8 (IntKind.wrap IntKind.u8 n49)]) 5) →
 ∃ w51 : World, ∃ l52 : Sl, (Sem.run Tryz.prog (Builtin.append_ (Array.mk [60, 60]) 60 (Array.mk [Value.slice l45.1 l45.2 l45.3, Value.slice (some (Addr.mk (Array.size (World.heap w47)) 0 none)) 4 4])) w50 = Result.ok (Value.slice l52.1 l52.2 l52.3) w51 ∧
 (I43 (Sl.mk l52.1 l52.2 l52.3) (IntKind.wrap IntKind.i64 (n46 + 1)) w51 ∧
 I44 (Sl.mk l52.1 l52.2 l52.3) (IntKind.wrap IntKind.i64 (n46 + 1)) w51 < I44 l45 n46 w47))))))))))) ∧
 (decide (n46 < (↑l42.2 : Int)) = false →
 ∃ w53 : World, ∃ s54 : ByteArray, (Sem.run Tryz.prog (convert 60 9 (Value.slice l45.1 l45.2 l45.3)) w47 = Result.ok (Value.string s54) w53 ∧
 R (Value.string s54) w53))))))))))))))))))))))))
theorem vc_sha_hash_sum_1_ok {x0 : Nat} {x1a : Option Addr} {x1n : Nat} {x1c : Nat} {w : World} {R : Value → World → Prop} {R' : Ending → World → Prop} (h : vc_sha_hash_sum_1 x0 x1a x1n x1c w R) (hR : ∀ v w', R v w' → R' (.returned v) w') :
    Calls Tryz.prog 74 #[.pointer (some ⟨x0, 0, none⟩), .slice x1a x1n x1c, .func (.func 73) #[] #[]] w R' :=
  calls_of_body (vs := [(.pointer (some ⟨x0, 0, none⟩), true), (.slice x1a x1n x1c, false), (.func (.func 73) #[] #[], false)]) (ty := ty) (ann := ⟨[(2, [(7, .addr)]), (4, [])], [(5, [(8, .str)]), (9, [(9, .slice), (10, .int .i64)]), (15, [(11, .slice), (71, .int .i64)])], [(1, .tree (.rd 0 (.rd 1 (.rd 2 (.rd 3 (.rd 5 (.rd 6 (.rd 7 (.rd 8 (.rd 9 (.rd 10 (.rd 11 (.rd 12 (.ef 4 (.rd 13 (.ef 14 (.ef 15 .done .done) .done)) (.ef 14 (.ef 4 (.rd 13 (.ef 15 .done .done)) .done) .done)))))))))))))))], []⟩) (c := Tryz.f74.body.getD .skip) (by kernel_rfl) Tryz.func74 (by kernel_rfl) (by kernel_rfl) (Eq.mp (by kernel_rfl) h) hR
/-- (*sha.Hash1).Write -/
def vc_sha_Hash1_Write (x0 : Nat) (x1 : ByteArray) (w : World) (R : Value → World → Prop) : Prop :=
 ∀ w1 : World,
 (Drew w w1 →
 ∃ I2 : World → Prop, (I2 w1 ∧
 Calls Tryz.prog (72 : Nat) (Array.mk []) (w1) (fun e3 w4 =>
 ∃ l5 : Sl, (e3 = Ending.returned (Value.slice l5.1 l5.2 l5.3) ∧
 (I2 w4 ∧
 Calls Tryz.prog (71 : Nat) (Array.mk [Value.pointer (some (Addr.mk x0 0 none)), Value.string x1, Value.slice l5.1 l5.2 l5.3, Value.func (Fn.func 73) (Array.mk []) (Array.mk [])]) (w4) (fun e6 w7 =>
 (e6 = Ending.returned (Value.tuple (Array.mk [])) ∧
 R (Value.tuple (Array.mk [])) w7)))))))
theorem vc_sha_Hash1_Write_ok {x0 : Nat} {x1 : ByteArray} {w : World} {R : Value → World → Prop} {R' : Ending → World → Prop} (h : vc_sha_Hash1_Write x0 x1 w R) (hR : ∀ v w', R v w' → R' (.returned v) w') :
    Calls Tryz.prog 51 #[.pointer (some ⟨x0, 0, none⟩), .string x1] w R' :=
  calls_of_body (vs := [(.pointer (some ⟨x0, 0, none⟩), true), (.string x1, false)]) (ty := ty) (ann := ⟨[], [], [(0, .held [(0, true), (1, true), (2, true), (3, true), (4, false), (5, false)])], []⟩) (c := Tryz.f51.body.getD .skip) (by kernel_rfl) Tryz.func51 (by kernel_rfl) (by kernel_rfl) (Eq.mp (by kernel_rfl) h) hR
/-- (*sha.Hash1).Sum -/
def vc_sha_Hash1_Sum (x0 : Nat) (w : World) (R : Value → World → Prop) : Prop :=
 ∀ w1 : World,
 (Drew w w1 →
 ∃ I2 : World → Prop, (I2 w1 ∧
 Calls Tryz.prog (72 : Nat) (Array.mk []) (w1) (fun e3 w4 =>
 ∃ l5 : Sl, (e3 = Ending.returned (Value.slice l5.1 l5.2 l5.3) ∧
 (I2 w4 ∧
 Calls Tryz.prog (74 : Nat) (Array.mk [Value.pointer (some (Addr.mk x0 0 none)), Value.slice l5.1 l5.2 l5.3, Value.func (Fn.func 73) (Array.mk []) (Array.mk [])]) (w4) (fun e6 w7 =>
 ∃ s8 : ByteArray, (e6 = Ending.returned (Value.string s8) ∧
 (I2 w7 ∧
 R (Value.string s8) w7))))))))
theorem vc_sha_Hash1_Sum_ok {x0 : Nat} {w : World} {R : Value → World → Prop} {R' : Ending → World → Prop} (h : vc_sha_Hash1_Sum x0 w R) (hR : ∀ v w', R v w' → R' (.returned v) w') :
    Calls Tryz.prog 52 #[.pointer (some ⟨x0, 0, none⟩)] w R' :=
  calls_of_body (vs := [(.pointer (some ⟨x0, 0, none⟩), true)]) (ty := ty) (ann := ⟨[], [], [(1, .held [(0, true), (1, true), (2, true), (3, false), (4, false), (5, true)])], []⟩) (c := Tryz.f52.body.getD .skip) (by kernel_rfl) Tryz.func52 (by kernel_rfl) (by kernel_rfl) (Eq.mp (by kernel_rfl) h) hR
/-- sha.Sum1 -/
def vc_sha_Sum1 (x0 : ByteArray) (w : World) (R : Value → World → Prop) : Prop :=
 ∀ w1 : World,
 (w1 = World.alloc w (Obj.cells (Array.mk [Value.slice none 0 0, Value.string (ByteArray.mk (Array.mk [])), Value.int IntKind.u64 0]) 104) →
 Calls Tryz.prog (51 : Nat) (Array.mk [Value.pointer (some (Addr.mk (Array.size (World.heap w)) 0 none)), Value.string x0]) (w1) (fun e2 w3 =>
 (e2 = Ending.returned (Value.tuple (Array.mk [])) ∧
 Calls Tryz.prog (52 : Nat) (Array.mk [Value.pointer (some (Addr.mk (Array.size (World.heap w)) 0 none))]) (w3) (fun e4 w5 =>
 ∃ s6 : ByteArray, (e4 = Ending.returned (Value.string s6) ∧
 R (Value.string s6) w5)))))
theorem vc_sha_Sum1_ok {x0 : ByteArray} {w : World} {R : Value → World → Prop} {R' : Ending → World → Prop} (h : vc_sha_Sum1 x0 w R) (hR : ∀ v w', R v w' → R' (.returned v) w') :
    Calls Tryz.prog 24 #[.string x0] w R' :=
  calls_of_body (vs := [(.string x0, false)]) (ty := ty) (ann := ⟨[], [], [], []⟩) (c := Tryz.f24.body.getD .skip) (by kernel_rfl) Tryz.func24 (by kernel_rfl) (by kernel_rfl) (Eq.mp (by kernel_rfl) h) hR
end Go.Proofs.YtaaimcbicpgjoaaGreatDoor

/- What the small functions of the package sha and of its reference do. Conditions: a word's text has four bytes; a turn is by less than 32. -/
set_option linter.unusedVariables false
namespace Go.Proofs.YtaaimcbicpgjoaaGreatDoor
open Go Vc ShaM Go.Proofs

theorem elU32 : El Tryz.prog T_S_uint32 T_uint32 (.int .u32 0) 4 := ⟨by kernel_rfl, by kernel_rfl, rfl⟩
abbrev uv (l : List W) : List Value := l.map (fun x : W => Value.int .u32 (x.toNat : Int))
theorem uv_get {l : List W} {i : Nat} (h : i < l.length) : (uv l)[i]? = some (.int .u32 ((l.getD i 0).toNat : Int)) := by
  simp only [uv, List.getElem?_map, List.getElem?_eq_getElem h, Option.map_some, List.getD_eq_getElem?_getD, Option.getD_some]
theorem uv_len (l : List W) : (uv l).length = l.length := List.length_map ..
/-- An element of an array by value. -/
theorem index_agg {P : Program} {w : World} (t e : TypeId) (n : Nat) (cs : List Value) (k : IntKind) (i : Nat) (h : P.underlying t = some (.array n e)) (hs : (P.info? e).map (·.size) = some 1) (hl : cs.length = n) (hin : i < n) (ho : Vc.one P e = true) :
    (Instr.index t (.agg cs.toArray) (.int k (i : Int))).run P w = .ok (cs.getD i undef) w := by
  obtain ⟨ie, hie, hsz⟩ := Option.map_eq_some_iff.1 hs
  have hn : 0 ≤ (i : Int) ∧ (i : Int) < (n : Int) := by omega
  have hsize : ∀ w, (Go.sizeOf e).run P w = .ok 1 w := fun w => by simp [Go.sizeOf, typeInfo, hie, hsz]
  have hi : i < cs.length := by omega
  simp [Instr.index, run_underlying h, asIntOf, hin, go_sem, hsize, run_isAgg ho, Result.andThen, hi]

theorem word_spec (s : ByteArray) (h : 4 ≤ s.size) (w : World) : Calls Tryz.prog F_sha_word #[.string s] w fun e w' => e = .returned (.int .u32 ((be s.data.toList 0).toNat : Int)) ∧ Drew w w' := by
  refine vc_sha_word_ok (R := fun v w' => v = .int .u32 ((be s.data.toList 0).toNat : Int) ∧ Drew w w') ?_ (fun v w' h => ⟨by rw [h.1], h.2⟩)
  refine ⟨⟨by decide, by omega⟩, by decide, ⟨by decide, by omega⟩, by decide, ⟨by decide, by omega⟩, by decide, ⟨by decide, by omega⟩, fun w1 d => ⟨?_, d⟩⟩
  have b0 := byteAt_nat s 0
  have b1 := byteAt_nat s 1
  have b2 := byteAt_nat s 2
  have b3 := byteAt_nat s 3
  have l0 := byt_lt s 0
  have l1 := byt_lt s 1
  have l2 := byt_lt s 2
  have l3 := byt_lt s 3
  have e : (be s.data.toList 0).toNat = byt s 0 * 16777216 + byt s 1 * 65536 + byt s 2 * 256 + byt s 3 := by
    unfold be byt
    rw [BitVec.toNat_ofNat]
    simp only [List.getD_eq_getElem?_getD, Nat.zero_add]
    unfold byt at l0 l1 l2 l3
    exact Nat.mod_eq_of_lt (by omega)
  rw [show byteAt s 0 = (byt s 0 : Int) from b0, show byteAt s 1 = (byt s 1 : Int) from b1, show byteAt s 2 = (byt s 2 : Int) from b2, show byteAt s 3 = (byt s 3 : Int) from b3, e]
  revert l0 l1 l2 l3
  generalize byt s 0 = a0
  generalize byt s 1 = a1
  generalize byt s 2 = a2
  generalize byt s 3 = a3
  intro l0 l1 l2 l3
  have p24 : (2 : Int) ^ min (Int.toNat 24) 32 = 16777216 := rfl
  have p16 : (2 : Int) ^ min (Int.toNat 16) 32 = 65536 := rfl
  have p8 : (2 : Int) ^ min (Int.toNat 8) 32 = 256 := rfl
  have m0 : IntKind.u32.wrap (IntKind.u32.wrap (a0 : Int) * 16777216) = ((a0 * 16777216 : Nat) : Int) := by rw [wrap_u32 (x := (a0 : Int)) (by omega) (by omega), wrap_u32 (by omega) (by omega)]; omega
  have m1 : IntKind.u32.wrap (IntKind.u32.wrap (a1 : Int) * 65536) = ((a1 * 65536 : Nat) : Int) := by rw [wrap_u32 (x := (a1 : Int)) (by omega) (by omega), wrap_u32 (by omega) (by omega)]; omega
  have m2 : IntKind.u32.wrap (IntKind.u32.wrap (a2 : Int) * 256) = ((a2 * 256 : Nat) : Int) := by rw [wrap_u32 (x := (a2 : Int)) (by omega) (by omega), wrap_u32 (by omega) (by omega)]; omega
  have o1 : (a0 * 16777216) ||| (a1 * 65536) = a0 * 16777216 + a1 * 65536 := by
    have := Nat.two_pow_add_eq_or_of_lt (i := 24) (b := a1 * 65536) (by omega) a0
    rw [Nat.mul_comm] at this; exact this.symm
  have o2 : (a0 * 16777216 + a1 * 65536) ||| (a2 * 256) = a0 * 16777216 + a1 * 65536 + a2 * 256 := by
    have := Nat.two_pow_add_eq_or_of_lt (i := 16) (b := a2 * 256) (by omega) (a0 * 256 + a1)
    rw [show 2 ^ 16 * (a0 * 256 + a1) = a0 * 16777216 + a1 * 65536 by omega] at this; exact this.symm
  have o3 : (a0 * 16777216 + a1 * 65536 + a2 * 256) ||| a3 = a0 * 16777216 + a1 * 65536 + a2 * 256 + a3 := by
    have := Nat.two_pow_add_eq_or_of_lt (i := 8) (b := a3) (by omega) (a0 * 65536 + a1 * 256 + a2)
    rw [show 2 ^ 8 * (a0 * 65536 + a1 * 256 + a2) = a0 * 16777216 + a1 * 65536 + a2 * 256 by omega] at this; exact this.symm
  rw [p24, p16, p8, m0, m1, m2, wrap_u32 (x := (a3 : Int)) (by omega) (by omega), or_nat 32 _ _ (by omega) (by omega), o1, wrap_u32 (x := ((a0 * 16777216 + a1 * 65536 : Nat) : Int)) (by omega) (by omega),
    or_nat 32 _ _ (by omega) (by omega), o2, wrap_u32 (x := ((a0 * 16777216 + a1 * 65536 + a2 * 256 : Nat) : Int)) (by omega) (by omega), or_nat 32 _ _ (by omega) (by omega), o3, wrap_u32 (by omega) (by omega)]

theorem rot_eq (x : W) {s : Nat} (h : s < 32) : IntKind.u32.wrap (↑((BitVec.ofInt 32 (IntKind.u32.wrap ((x.toNat : Int) * 2 ^ min s 32)) ||| BitVec.ofInt 32 (Int.fdiv (x.toNat : Int) (2 ^ min (32 - s) 32))).toNat) : Int) = ((rotl x s).toNat : Int) := by
  rw [u_shl x s (by omega), u_shr x (32 - s) (by omega), u_of, u_of, u_wrap]; rfl

theorem rot_spec (x : W) (k : Int) (s : Nat) (hs : s < 32) (hk : k % 18446744073709551616 % 32 = (s : Int)) (w : World) :
    Calls Tryz.prog F_bits_RotateLeft32 #[.int .u32 (x.toNat : Int), .int .i64 k] w fun e w' => e = .returned (.int .u32 ((rotl x s).toNat : Int)) ∧ w' = w := by
  refine vc_bits_RotateLeft32_ok (R := fun v w' => v = .int .u32 ((rotl x s).toNat : Int) ∧ w' = w) ?_ (fun v w' h => ⟨by rw [h.1], h.2⟩)
  rw [vc_bits_RotateLeft32, wrap_u64_mod k]
  obtain ⟨n, hn⟩ := Int.eq_ofNat_of_zero_le (Int.emod_nonneg k (show (18446744073709551616 : Int) ≠ 0 by decide))
  have hlt : k % 18446744073709551616 < 18446744073709551616 := Int.emod_lt_of_pos _ (by decide)
  rw [hn] at hk hlt ⊢
  have e1 : (BitVec.ofInt 64 31) = BitVec.ofInt 64 ((31 : Nat) : Int) := rfl
  have e2 : n &&& 31 = s := by
    have := Nat.and_two_pow_sub_one_eq_mod n 5
    rw [show 2 ^ 5 - 1 = 31 from rfl] at this
    rw [this]; omega
  rw [e1, and_nat 64 _ _ (by omega) (by omega), e2, wrap_u64 (x := (s : Int)) (by omega) (by omega), wrap_u64 (x := 32 - (s : Int)) (by omega) (by omega)]
  refine ⟨by omega, by omega, ?_, rfl⟩
  rw [Int.toNat_natCast, show (32 - (s : Int)).toNat = 32 - s by omega, rot_eq x hs]
end Go.Proofs.YtaaimcbicpgjoaaGreatDoor

/- Arrays of words, in plain and in memory. No condition. -/
set_option linter.unusedVariables false
namespace Go.Proofs.YtaaimcbicpgjoaaGreatDoor
open Go Vc ShaM Go.Proofs

theorem ext_toList (s : ByteArray) (a b : Nat) : (s.extract a b).data.toList = (s.data.toList.drop a).take (b - a) := by
  rw [ByteArray.data_extract, Array.toList_extract]
theorem be_drop (l : List UInt8) (a : Nat) : be (l.drop a) 0 = be l a := by
  unfold be; simp [List.getD_eq_getElem?_getD, List.getElem?_drop]
theorem neg32 : BitVec.ofInt 32 (if IntKind.signed IntKind.u32 = true then -1 else Int.ofNat (2 ^ 32 - Nat.succ 0)) = BitVec.allOnes 32 := by decide
theorem ones32 : BitVec.ofInt 32 4294967295 = BitVec.allOnes 32 := by decide

/-- The array of a schedule while it is made. -/
def arr (E : Nat → List W) (n k : Nat) : List W := E k ++ List.replicate (n - k) 0
theorem arr_set {E : Nat → List W} {n k : Nat} {x : W} (hE : (E k).length = k) (hk : k < n) (h : E (k + 1) = E k ++ [x]) : (arr E n k).set k x = arr E n (k + 1) := by
  unfold arr
  rw [List.set_append_right _ _ (by omega), hE, Nat.sub_self, h, List.append_assoc, show n - k = (n - (k + 1)) + 1 by omega, List.replicate_succ]
  rfl
theorem arr_length {E : Nat → List W} {n k : Nat} (hE : (E k).length = k) (hk : k ≤ n) : (arr E n k).length = n := by
  unfold arr; rw [List.length_append, List.length_replicate]; omega
theorem arr_getD {E : Nat → List W} {n k j : Nat} (hE : (E k).length = k) (hj : j < k) : (arr E n k).getD j 0 = (E k).getD j 0 := by
  unfold arr
  rw [List.getD_eq_getElem?_getD, List.getElem?_append_left (by omega), List.getD_eq_getElem?_getD]
theorem own_get {w : World} {base : Nat} {e : TypeId} {l : Sl} {xs : List W} (h : Vc.Own w base e l (uv xs)) {i : Nat} (hi : i < xs.length) : ∃ x, l.a = some x ∧ w.cell? (x.add i) = some (.int .u32 ((xs.getD i 0).toNat : Int)) :=
  h.reads i _ (uv_get hi)
theorem own_put {w : World} {base : Nat} {e : TypeId} {l : Sl} {xs : List W} (h : Vc.Own w base e l (uv xs)) {i : Nat} (hi : i < xs.length) (x : W) :
    ∃ y, l.a = some y ∧ Wr w (y.add i) ∧ ∀ w2, w2 = w.setCell (y.add i) (.int .u32 (x.toNat : Int)) → Vc.Own w2 base e l (uv (xs.set i x)) ∧ Fr (Vc.At l) w w2 := by
  obtain ⟨y, hy, hc, hw, hs⟩ := h.set (i := i) (by rw [uv_len]; exact hi)
  refine ⟨y, hy, hw, fun w2 hw2 => ?_⟩
  obtain ⟨h1, h2⟩ := hs (.int .u32 (x.toNat : Int))
  rw [hw2]
  exact ⟨by rw [uv, List.map_set]; exact h1, h2⟩

theorem f1_eq (i : Nat) (b c d : W) : (i < 20 → f1 i b c d = (b &&& c) ||| (~~~b &&& d) ∧ k1 i = 0x5a827999#32) ∧ (20 ≤ i → i < 40 → f1 i b c d = b ^^^ c ^^^ d ∧ k1 i = 0x6ed9eba1#32) ∧
    (40 ≤ i → i < 60 → f1 i b c d = (b &&& c) ||| (b &&& d) ||| (c &&& d) ∧ k1 i = 0x8f1bbcdc#32) ∧ (60 ≤ i → f1 i b c d = b ^^^ c ^^^ d ∧ k1 i = 0xca62c1d6#32) := by
  unfold f1 k1
  refine ⟨fun h => ?_, fun h h2 => ?_, fun h h2 => ?_, fun h => ?_⟩
  · rw [if_pos h, if_pos h]; exact ⟨rfl, rfl⟩
  · rw [if_neg (by omega), if_pos h2, if_neg (by omega), if_pos h2]; exact ⟨rfl, rfl⟩
  · rw [if_neg (by omega), if_neg (by omega), if_pos h2, if_neg (by omega), if_neg (by omega), if_pos h2]; exact ⟨rfl, rfl⟩
  · rw [if_neg (by omega), if_neg (by omega), if_neg (by omega), if_neg (by omega), if_neg (by omega), if_neg (by omega)]; exact ⟨rfl, rfl⟩

end Go.Proofs.YtaaimcbicpgjoaaGreatDoor

/- What block1 of the package sha does. Conditions: the words are five, in a slice of the call's own; the text has 64 bytes. -/
set_option linter.unusedVariables false
namespace Go.Proofs.YtaaimcbicpgjoaaGreatDoor
open Go Vc ShaM Go.Proofs

theorem block1_spec {w : World} {base : Nat} {l : Sl} {h : List W} (ho : Vc.Own w base T_uint32 l (uv h)) (hl : h.length = 5) (p : ByteArray) (hp : p.size = 64) :
    Calls Tryz.prog F_sha_block1 #[.slice l.a l.len l.cap, .string p] w fun e w' => e = .returned (.tuple #[]) ∧ Vc.Own w' base T_uint32 l (uv (block1 h p.data.toList)) ∧ Fr (Vc.At l) w w' := by
  refine vc_sha_block1_ok (R := fun v w' => v = .tuple #[] ∧ Vc.Own w' base T_uint32 l (uv (block1 h p.data.toList)) ∧ Fr (Vc.At l) w w') ?_ (fun v w' h => ⟨by rw [h.1], h.2⟩)
  intro w1 hw1
  have f1' : Fr (fun _ => False) w w1 := hw1 ▸ Fr.alloc _ _ _
  generalize hB : w.heap.size = wb at hw1
  obtain ⟨P, hPd⟩ : ∃ P, p.data.toList = P := ⟨_, rfl⟩
  rw [hPd]
  have hE : ∀ k, (E1 P k).length = k := E1_length P
  have o1 : Vc.Own w1 wb T_80_uint32 ⟨some ⟨wb, 0, none⟩, 80, 80⟩ (uv (arr (E1 P) 80 0)) := by
    refine ⟨rfl, .inr ⟨wb, _, rfl, Nat.le_refl _, by rw [hw1, ← hB]; exact alloc_new _ _, Nat.le_refl _, by simp [maxLen], rfl, rfl⟩⟩
  have hlen : l.len = 5 := by rw [ho.len, uv_len, hl]
  refine ⟨fun i w' => ∃ k : Nat, k ≤ 80 ∧ i = (k : Int) ∧ Vc.Own w' wb T_80_uint32 ⟨some ⟨wb, 0, none⟩, 80, 80⟩ (uv (arr (E1 P) 80 k)) ∧ Fr (fun _ => False) w w', fun i _ => (80 - i).toNat, ⟨0, by decide, rfl, o1, f1'⟩, ?_⟩
  rintro i w5 ⟨k, hk, rfl, o5, f5⟩
  have hAl := arr_length (n := 80) (hE k) hk
  have e1 : IntKind.i64.wrap ((k : Int) + 1) = ((k + 1 : Nat) : Int) := by rw [wrap_i64 (by omega) (by omega)]; omega
  have hX : ∀ {w' : World}, Fr (fun _ => False) w w' → ∀ {w2 : World}, Fr (Vc.At ⟨some ⟨wb, 0, none⟩, 80, 80⟩) w' w2 → Fr (fun _ => False) w w2 := fun {w'} hf {w2} h2 => hf.trans h2 fun q hq ⟨y, hy, e⟩ => by cases hy; simp only at e; omega
  refine ⟨fun hlt => ?_, fun hge => ?_⟩
  · have hlt := of_decide_eq_true hlt
    have hk80 : k < 80 := by omega
    refine ⟨fun h16 => ?_, fun h16 => ?_⟩
    · have h16 := of_decide_eq_true h16
      have e4 : IntKind.i64.wrap (4 * (k : Int)) = ((4 * k : Nat) : Int) := by rw [wrap_i64 (by omega) (by omega)]; omega
      rw [e4, Int.toNat_natCast]
      refine ⟨⟨by omega, by omega⟩, ?_⟩
      refine (word_spec _ (by rw [ByteArray.size_extract]; omega) w5).mono ?_
      rintro e w7 ⟨rfl, d7⟩
      refine ⟨_, rfl, ⟨by omega, by omega⟩, ?_⟩
      have hx : be (p.extract (4 * k) p.size).data.toList 0 = be P (4 * k) := by
        rw [ext_toList, hPd, List.take_of_length_le (by rw [List.length_drop, ← hPd]; simp), be_drop]
      rw [hx, Int.toNat_natCast, Nat.mul_one, e1]
      obtain ⟨y, hy, hwr, hset⟩ := own_put (o5.drew d7) (i := k) (by omega) (be P (4 * k))
      cases hy
      refine ⟨hwr, fun w9 hw9 => ?_⟩
      obtain ⟨o9, f9⟩ := hset w9 hw9
      rw [arr_set (hE k) hk80 (E1_low P (by omega))] at o9
      exact ⟨⟨k + 1, by omega, rfl, o9, hX (f5.trans' (.drew _ d7)) f9⟩, by dsimp only; omega⟩
    · have h16 := of_decide_eq_false h16
      intro w10 d10
      have o10 := o5.drew d10
      have g : ∀ j, j < k → w10.cell? (Addr.add ⟨wb, 0, none⟩ j) = some (.int .u32 (((E1 P k).getD j 0).toNat : Int)) := fun j hj => by
        obtain ⟨y, hy, hc⟩ := own_get o10 (i := j) (by omega)
        cases hy
        rw [arr_getD (hE k) hj] at hc; exact hc
      have s3 : (IntKind.i64.wrap ((k : Int) - 3)).toNat = k - 3 := by rw [wrap_i64 (by omega) (by omega)]; omega
      have s8 : (IntKind.i64.wrap ((k : Int) - 8)).toNat = k - 8 := by rw [wrap_i64 (by omega) (by omega)]; omega
      have s14 : (IntKind.i64.wrap ((k : Int) - 14)).toNat = k - 14 := by rw [wrap_i64 (by omega) (by omega)]; omega
      have s16 : (IntKind.i64.wrap ((k : Int) - 16)).toNat = k - 16 := by rw [wrap_i64 (by omega) (by omega)]; omega
      have r3 : IntKind.i64.wrap ((k : Int) - 3) = ((k - 3 : Nat) : Int) := by rw [wrap_i64 (by omega) (by omega)]; omega
      have r8 : IntKind.i64.wrap ((k : Int) - 8) = ((k - 8 : Nat) : Int) := by rw [wrap_i64 (by omega) (by omega)]; omega
      have r14 : IntKind.i64.wrap ((k : Int) - 14) = ((k - 14 : Nat) : Int) := by rw [wrap_i64 (by omega) (by omega)]; omega
      have r16 : IntKind.i64.wrap ((k : Int) - 16) = ((k - 16 : Nat) : Int) := by rw [wrap_i64 (by omega) (by omega)]; omega
      refine ⟨fun w => w = w10, rfl, by rw [r3]; exact ⟨by omega, by omega⟩, _, fun w hw => by rw [hw, s3, Nat.mul_one]; exact g _ (by omega), by rw [r8]; exact ⟨by omega, by omega⟩, _, fun w hw => by rw [hw, s8, Nat.mul_one]; exact g _ (by omega),
        by rw [r14]; exact ⟨by omega, by omega⟩, _, fun w hw => by rw [hw, s14, Nat.mul_one]; exact g _ (by omega), by rw [r16]; exact ⟨by omega, by omega⟩, _, fun w hw => by rw [hw, s16, Nat.mul_one]; exact g _ (by omega), ?_⟩
      simp only [u_of, u_wrap]
      refine (rot_spec _ 1 1 (by decide) (by decide) w10).mono ?_
      rintro e w21 ⟨rfl, rfl⟩
      refine ⟨_, rfl, rfl, ⟨by omega, by omega⟩, ?_⟩
      rw [← nxt1_at (hE k), Int.toNat_natCast, Nat.mul_one, e1]
      obtain ⟨y, hy, hwr, hset⟩ := own_put o10 (i := k) (by omega) (nxt1 (E1 P k))
      cases hy
      refine ⟨hwr, fun w9 hw9 => ?_⟩
      obtain ⟨o9, f9⟩ := hset w9 hw9
      rw [arr_set (hE k) hk80 (E1_high P (by omega))] at o9
      exact ⟨⟨k + 1, by omega, rfl, o9, hX (f5.trans' (.drew _ d10)) f9⟩, by omega⟩
  have hge := of_decide_eq_false hge
  have : k = 80 := by omega
  subst this
  have hfull : arr (E1 P) 80 80 = ext1 64 (words P) := by unfold arr; rw [Nat.sub_self, List.replicate_zero, List.append_nil, E1_ext P (by decide)]
  rw [hfull] at o5 hAl
  obtain ⟨h0, h1, h2, h3, h4, rfl⟩ : ∃ a b c d e, h = [a, b, c, d, e] := by
    match h, hl with
    | [a, b, c, d, e], _ => exact ⟨_, _, _, _, _, rfl⟩
  have oh := ho.keep f5 (by simp)
  have rd : ∀ {w' : World}, Vc.Own w' base T_uint32 l (uv [h0, h1, h2, h3, h4]) → ∃ x, l.a = some x ∧ w'.cell? (x.add 0) = some (.int .u32 (h0.toNat : Int)) ∧ w'.cell? (x.add 1) = some (.int .u32 (h1.toNat : Int)) ∧ w'.cell? (x.add 2) = some (.int .u32 (h2.toNat : Int)) ∧
      w'.cell? (x.add 3) = some (.int .u32 (h3.toNat : Int)) ∧ w'.cell? (x.add 4) = some (.int .u32 (h4.toNat : Int)) := fun {w'} o => by
    obtain ⟨x, hx, c0⟩ := own_get o (i := 0) (by simp)
    obtain ⟨x1, hx1, c1⟩ := own_get o (i := 1) (by simp)
    obtain ⟨x2, hx2, c2⟩ := own_get o (i := 2) (by simp)
    obtain ⟨x3, hx3, c3⟩ := own_get o (i := 3) (by simp)
    obtain ⟨x4, hx4, c4⟩ := own_get o (i := 4) (by simp)
    rw [hx] at hx1 hx2 hx3 hx4
    cases hx1; cases hx2; cases hx3; cases hx4
    exact ⟨x, hx, c0, c1, c2, c3, c4⟩
  obtain ⟨x, hx, c0, c1, c2, c3, c4⟩ := rd oh
  rw [hlen]
  refine ⟨⟨by decide, by decide⟩, x, hx, _, c0, ⟨by decide, by decide⟩, x, hx, _, c1, ⟨by decide, by decide⟩, x, hx, _, c2, ⟨by decide, by decide⟩, x, hx, _, c3, ⟨by decide, by decide⟩, x, hx, _, c4, fun w34 d34 => ?_⟩
  have o34 := o5.drew d34
  have oh34 := oh.drew d34
  have hload := load_agg (P := Tryz.prog) (t := T_80_uint32) (w := w34) (a := ⟨wb, 0, none⟩) (vs := uv (ext1 64 (words P))) (agg_of (by kernel_rfl)) (by rw [uv_len, hAl]; kernel_rfl) (fun j v hv => by
    obtain ⟨y, hy, hc⟩ := o34.reads j v hv
    cases hy; exact hc)
  refine ⟨_, hload, ?_⟩
  obtain ⟨S, hS⟩ : ∃ S, ext1 64 (words P) = S := ⟨_, rfl⟩
  rw [hS] at hAl ⊢
  have hbl : block1 [h0, h1, h2, h3, h4] P = adds [h0, h1, h2, h3, h4] (rds1 0 S [h0, h1, h2, h3, h4]) := by unfold block1; rw [hS]
  rw [hbl]
  refine ⟨fun a b c d e i w' => w' = w34 ∧ ∃ (A B C D E : W) (k : Nat), k ≤ 80 ∧ i = (k : Int) ∧ a = (A.toNat : Int) ∧ b = (B.toNat : Int) ∧ c = (C.toNat : Int) ∧ d = (D.toNat : Int) ∧ e = (E.toNat : Int) ∧ rds1 0 S [h0, h1, h2, h3, h4] = rds1 k (S.drop k) [A, B, C, D, E],
    fun _ _ _ _ _ i _ => (80 - i).toNat, ⟨rfl, h0, h1, h2, h3, h4, 0, by decide, rfl, rfl, rfl, rfl, rfl, rfl, rfl⟩, ?_⟩
  rintro a b c d e i w44 ⟨rfl, A, B, C, D, E, k, hk, rfl, rfl, rfl, rfl, rfl, rfl, hv⟩
  have e1 : IntKind.i64.wrap ((k : Int) + 1) = ((k + 1 : Nat) : Int) := by rw [wrap_i64 (by omega) (by omega)]; omega
  refine ⟨fun hlt => ?_, fun hge => ?_⟩
  · have hlt := of_decide_eq_true hlt
    have hk80 : k < 80 := by omega
    have hidx := index_agg (P := Tryz.prog) (w := w44) T_80_uint32 T_uint32 80 (uv S) .i64 k (by kernel_rfl) (by kernel_rfl) (by rw [uv_len]; omega) hk80 (by kernel_rfl)
    have hget : (uv S).getD k undef = .int .u32 ((S.getD k 0).toNat : Int) := by rw [List.getD_eq_getElem?_getD, uv_get (by omega)]; rfl
    rw [hget] at hidx
    refine ⟨w44, _, hidx, ?_⟩
    rw [rds1_step (by omega)] at hv
    have etd : IntKind.i64.wrap (Int.tdiv (k : Int) 20) = ((k / 20 : Nat) : Int) := by rw [Int.tdiv_eq_ediv_of_nonneg (by omega), wrap_i64 (by omega) (by omega)]; omega
    rw [etd]
    obtain ⟨q1, q2, q3, q4⟩ := f1_eq k B C D
    refine ⟨fun f q w' => f = ((f1 k B C D).toNat : Int) ∧ q = ((k1 k).toNat : Int) ∧ w' = w44, ⟨by decide, fun h => ?_, fun h => ⟨fun h => ?_, fun h' => ⟨fun h => ?_, fun h'' => ?_⟩⟩⟩, ?_⟩
    · have h : ((k / 20 : Nat) : Int) = 0 := by simpa using h
      obtain ⟨g1, g2⟩ := q1 (by omega)
      rw [g1, g2, neg32]
      exact ⟨by simp only [u_of, u_wrap, BitVec.allOnes_xor], rfl, rfl⟩
    · have h : ((k / 20 : Nat) : Int) = 1 := by simpa using h
      obtain ⟨g1, g2⟩ := q2 (by omega) (by omega)
      rw [g1, g2]
      exact ⟨by simp only [u_of, u_wrap], rfl, rfl⟩
    · have h : ((k / 20 : Nat) : Int) = 2 := by simpa using h
      obtain ⟨g1, g2⟩ := q3 (by omega) (by omega)
      rw [g1, g2]
      exact ⟨by simp only [u_of, u_wrap], rfl, rfl⟩
    · have h : ¬ ((k / 20 : Nat) : Int) = 0 := by simpa using h
      have h' : ¬ ((k / 20 : Nat) : Int) = 1 := by simpa using h'
      have h'' : ¬ ((k / 20 : Nat) : Int) = 2 := by simpa using h''
      obtain ⟨g1, g2⟩ := q4 (by omega)
      rw [g1, g2]
      exact ⟨by simp only [u_of, u_wrap], rfl, rfl⟩
    rintro f q w50 ⟨rfl, rfl, rfl⟩
    refine (rot_spec A 5 5 (by decide) (by decide) w50).mono ?_
    rintro e w52 ⟨rfl, rfl⟩
    refine ⟨_, rfl, ?_⟩
    refine (rot_spec B 30 30 (by decide) (by decide) w52).mono ?_
    rintro e w55 ⟨rfl, rfl⟩
    refine ⟨_, rfl, ?_⟩
    rw [e1, u_add, u_add, u_add, u_add]
    exact ⟨⟨rfl, _, _, _, _, _, k + 1, by omega, rfl, rfl, rfl, rfl, rfl, rfl, hv⟩, by dsimp only; omega⟩
  · have hge := of_decide_eq_false hge
    have : k = 80 := by omega
    subst this
    rw [List.drop_eq_nil_of_le (by omega)] at hv
    have hv : rds1 0 S [h0, h1, h2, h3, h4] = [A, B, C, D, E] := hv
    rw [hv]
    have fin : adds [h0, h1, h2, h3, h4] [A, B, C, D, E] = [h0 + A, h1 + B, h2 + C, h3 + D, h4 + E] := rfl
    rw [fin]
    obtain ⟨x, hx, c0, c1, c2, c3, c4⟩ := rd oh34
    have P0 := own_put oh34 (i := 0) (by simp) (h0 + A)
    obtain ⟨y, hy, hwr, hset⟩ := P0
    rw [hx] at hy; cases hy
    refine ⟨⟨by decide, by decide⟩, x, hx, _, c0, ⟨by decide, by decide⟩, x, hx, hwr, ?_⟩
    rw [u_add]
    intro w60 hw60
    obtain ⟨o60, f60⟩ := hset w60 hw60
    obtain ⟨y, hy, c1⟩ := own_get o60 (i := 1) (by simp)
    rw [hx] at hy; cases hy
    obtain ⟨y, hy, hwr, hset⟩ := own_put o60 (i := 1) (by simp) (h1 + B)
    rw [hx] at hy; cases hy
    refine ⟨⟨by decide, by decide⟩, x, hx, _, c1, ⟨by decide, by decide⟩, x, hx, hwr, ?_⟩
    rw [show ([h0, h1, h2, h3, h4].set 0 (h0 + A)).getD 1 0 = h1 from rfl, u_add]
    intro w64 hw64
    obtain ⟨o64, f64⟩ := hset w64 hw64
    obtain ⟨y, hy, c2⟩ := own_get o64 (i := 2) (by simp)
    rw [hx] at hy; cases hy
    obtain ⟨y, hy, hwr, hset⟩ := own_put o64 (i := 2) (by simp) (h2 + C)
    rw [hx] at hy; cases hy
    refine ⟨⟨by decide, by decide⟩, x, hx, _, c2, ⟨by decide, by decide⟩, x, hx, hwr, ?_⟩
    rw [show (([h0, h1, h2, h3, h4].set 0 (h0 + A)).set 1 (h1 + B)).getD 2 0 = h2 from rfl, u_add]
    intro w68 hw68
    obtain ⟨o68, f68⟩ := hset w68 hw68
    obtain ⟨y, hy, c3⟩ := own_get o68 (i := 3) (by simp)
    rw [hx] at hy; cases hy
    obtain ⟨y, hy, hwr, hset⟩ := own_put o68 (i := 3) (by simp) (h3 + D)
    rw [hx] at hy; cases hy
    refine ⟨⟨by decide, by decide⟩, x, hx, _, c3, ⟨by decide, by decide⟩, x, hx, hwr, ?_⟩
    rw [show ((([h0, h1, h2, h3, h4].set 0 (h0 + A)).set 1 (h1 + B)).set 2 (h2 + C)).getD 3 0 = h3 from rfl, u_add]
    intro w72 hw72
    obtain ⟨o72, f72⟩ := hset w72 hw72
    obtain ⟨y, hy, c4⟩ := own_get o72 (i := 4) (by simp)
    rw [hx] at hy; cases hy
    obtain ⟨y, hy, hwr, hset⟩ := own_put o72 (i := 4) (by simp) (h4 + E)
    rw [hx] at hy; cases hy
    refine ⟨⟨by decide, by decide⟩, x, hx, _, c4, ⟨by decide, by decide⟩, x, hx, hwr, ?_⟩
    rw [show (((([h0, h1, h2, h3, h4].set 0 (h0 + A)).set 1 (h1 + B)).set 2 (h2 + C)).set 3 (h3 + D)).getD 4 0 = h4 from rfl, u_add]
    intro w76 hw76
    obtain ⟨o76, f76⟩ := hset w76 hw76
    exact ⟨rfl, o76, ((((((f5.mono (by simp)).trans' (.drew _ d34)).trans' f60).trans' f64).trans' f68).trans' f72).trans' f76⟩
end Go.Proofs.YtaaimcbicpgjoaaGreatDoor

/- Words in a row, stored; sums of words. No condition. -/
set_option linter.unusedVariables false
namespace Go.Proofs.YtaaimcbicpgjoaaGreatDoor
open Go Vc ShaM Go.Proofs

theorem one_uv (l : List W) : ∀ u ∈ uv l, u.oneCell' = true := fun u h => by
  obtain ⟨b, _, rfl⟩ := List.mem_map.1 h; rfl
theorem setRow_fr (X : Nat → Prop) (w : World) (g : Nat) (cs : Array Value) (h : X g) : Fr X w (w.setRow g cs) :=
  ⟨rfl, rfl, rfl, by simp [World.setRow], fun k _ hx => by
    simp only [World.setRow, Array.getElem?_modify]
    rw [if_neg (fun e => hx (by rw [← e]; exact h))]⟩
/-- A whole array stored. -/
theorem store_arr {P : Program} {w : World} {base g n : Nat} {e t : TypeId} {xs ys : List W} (h : Vc.Own w base e ⟨some ⟨g, 0, none⟩, n, n⟩ (uv xs)) (hy : ys.length = n) (hi : (P.info? t).map (·.size) = some n) :
    ∃ w', (storeVar t ⟨g, 0, none⟩ (.agg (uv ys).toArray)).run P w = .ok () w' ∧ Vc.Own w' base e ⟨some ⟨g, 0, none⟩, n, n⟩ (uv ys) ∧ Fr (· = g) w w' := by
  have hn := h.1
  rcases h.2 with ⟨ha, _⟩ | ⟨g', cur, ha, hb, hg, hl, hm, hs, ht⟩
  · cases ha
  · cases ha
    have hr := run_storeVar_row (P := P) w g e t cur (uv ys).toArray hg (by rw [hi, List.size_toArray, uv_len, hy]) (by simp [hy]; exact hs)
      (by rw [Array.all_eq_true_iff_forall_mem]; intro v hv; exact one_uv ys v (by simpa using hv))
    refine ⟨_, hr, ⟨by rw [uv_len, hy], .inr ⟨g, _, rfl, hb, setRow_heap w g cur _ e (0, 0) hg, hl, hm, by rw [List.size_toArray, uv_len, hy], ?_⟩⟩, setRow_fr _ w g _ rfl⟩
    exact List.take_of_length_le (by simp [hy])
set_option maxRecDepth 100000 in
theorem adds_zip : ∀ (h v : List W), adds h v = List.zipWith (· + ·) h v
  | [], _ => by simp [adds]
  | a :: h, [] => by simp [adds]
  | a :: h, b :: v => by simp [adds, adds_zip h v]
/-- The words while they are added. -/
def mix (h v : List W) (i : Nat) : List W := (adds h v).take i ++ h.drop i
theorem mix_next {h v : List W} {i : Nat} (hl : h.length = v.length) (hi : i < h.length) : (mix h v i).set i (h.getD i 0 + v.getD i 0) = mix h v (i + 1) ∧ (mix h v i).getD i 0 = h.getD i 0 ∧ (mix h v i).length = h.length := by
  have hal : (adds h v).length = h.length := by rw [adds_zip, List.length_zipWith]; omega
  have htl : ((adds h v).take i).length = i := by rw [List.length_take]; omega
  have hx : (adds h v)[i]'(by omega) = h.getD i 0 + v.getD i 0 := by
    simp only [adds_zip, List.getElem_zipWith, List.getD_eq_getElem?_getD, List.getElem?_eq_getElem hi, List.getElem?_eq_getElem (show i < v.length by omega), Option.getD_some]
  refine ⟨?_, ?_, ?_⟩
  · unfold mix
    rw [List.set_append_right _ _ (by omega), htl, Nat.sub_self, List.take_succ_eq_append_getElem (by omega), hx, List.append_assoc, List.drop_eq_getElem_cons hi]
    rfl
  · unfold mix
    rw [List.getD_eq_getElem?_getD, List.getElem?_append_right (by omega), htl, Nat.sub_self, List.getElem?_drop]
    rw [List.getD_eq_getElem?_getD]; rfl
  · unfold mix
    rw [List.length_append, List.length_drop, htl]; omega
end Go.Proofs.YtaaimcbicpgjoaaGreatDoor

/- Plain facts: a sum is added up text by text. -/
set_option linter.unusedVariables false
namespace ShaM
/-- What waits for a whole block. -/
def rest (t : List UInt8) : List UInt8 := t.drop (64 * (t.length / 64))
/-- The words behind the whole blocks. -/
def stt (f : List W → List UInt8 → List W) (st : List W) (t : List UInt8) : List W := blocks f (t.length / 64) st t
theorem rest_length (t : List UInt8) : (rest t).length = t.length % 64 := by unfold rest; rw [List.length_drop]; omega
theorem blocks_add (f : List W → List UInt8 → List W) : ∀ (a b : Nat) (h : List W) (t : List UInt8), blocks f (a + b) h t = blocks f b (blocks f a h t) (t.drop (64 * a))
  | 0, b, h, t => by simp [blocks]
  | a + 1, b, h, t => by
    rw [show a + 1 + b = (a + b) + 1 by omega]
    simp only [blocks]
    rw [blocks_add f a b, List.drop_drop]
    congr 2; omega
theorem blocks_app (f : List W → List UInt8 → List W) : ∀ (n : Nat) (h : List W) (t u : List UInt8), 64 * n ≤ t.length → blocks f n h (t ++ u) = blocks f n h t
  | 0, h, t, u, _ => rfl
  | n + 1, h, t, u, hl => by
    simp only [blocks]
    rw [List.take_append_of_le_length (by omega), List.drop_append_of_le_length (by omega), blocks_app f n _ _ u (by rw [List.length_drop]; omega)]
theorem step_all (f : List W → List UInt8 → List W) (st : List W) (t x : List UInt8) :
    blocks f ((rest t ++ x).length / 64) (stt f st t) (rest t ++ x) = stt f st (t ++ x) ∧ (rest t ++ x).drop (64 * ((rest t ++ x).length / 64)) = rest (t ++ x) := by
  have h1 : rest t ++ x = (t ++ x).drop (64 * (t.length / 64)) := by unfold rest; rw [List.drop_append_of_le_length (by omega)]
  have h2 : (t ++ x).length / 64 = t.length / 64 + (rest t ++ x).length / 64 := by rw [List.length_append, List.length_append, rest_length]; omega
  constructor
  · unfold stt
    rw [h2, blocks_add, blocks_app f _ _ t x (by omega), h1]
  · show _ = (t ++ x).drop (64 * ((t ++ x).length / 64))
    rw [h2]
    generalize (rest t ++ x).length / 64 = q
    rw [h1, List.drop_drop, Nat.mul_add]
theorem blocks_step (f : List W → List UInt8 → List W) (q : Nat) (h : List W) (t : List UInt8) : blocks f (q + 1) h t = f (blocks f q h t) ((t.drop (64 * q)).take 64) := by
  rw [blocks_add f q 1]; rfl
theorem blocks_length {f : List W → List UInt8 → List W} {k : Nat} (hf : ∀ h p, h.length = k → (f h p).length = k) : ∀ (n : Nat) (h : List W) (t : List UInt8), h.length = k → (blocks f n h t).length = k
  | 0, h, t, hl => hl
  | n + 1, h, t, hl => blocks_length hf n _ _ (hf _ _ hl)
theorem adds_length : ∀ {h v : List W}, h.length = v.length → (adds h v).length = h.length
  | [], [], _ => rfl
  | a :: h, b :: v, hl => by simp only [adds, List.length_cons]; rw [adds_length (by simpa using hl)]
theorem rd1_length (i : Nat) (x : W) (v : List W) : (rd1 i x v).length = v.length := by
  unfold rd1; split <;> rfl
theorem rds1_length : ∀ (i : Nat) (l v : List W), (rds1 i l v).length = v.length
  | _, [], v => rfl
  | i, x :: r, v => by rw [rds1, rds1_length (i + 1) r, rd1_length]
theorem rd2_length (k x : W) (v : List W) : (rd2 k x v).length = v.length := by
  unfold rd2; split <;> rfl
theorem rds2_length : ∀ (k l v : List W), (rds2 k l v).length = v.length
  | [], _, v => by simp [rds2]
  | _ :: _, [], v => by simp [rds2]
  | k :: ks, x :: r, v => by rw [rds2, rds2_length ks r, rd2_length]
theorem block1_length (h : List W) (p : List UInt8) : (block1 h p).length = h.length := by
  unfold block1; rw [adds_length (by rw [rds1_length])]
theorem block2_length (K h : List W) (p : List UInt8) : (block2 K h p).length = h.length := by
  unfold block2; rw [adds_length (by rw [rds2_length])]
/-- The digest of a text by f. -/
def digest (f : List W → List UInt8 → List W) (st : List W) (t : List UInt8) : List UInt8 := out (stt f st (pad t))
theorem pad_length (t : List UInt8) : (pad t).length % 64 = 0 := by
  unfold pad; simp; omega
theorem dig1_len (t : List UInt8) : (digest block1 start1 t).length = 20 := by
  have hl : (stt block1 start1 (pad t)).length = 5 := blocks_length (f := block1) (fun h p hl => by rw [block1_length]; exact hl) _ _ _ rfl
  unfold digest
  match stt block1 start1 (pad t), hl with
  | [a, b, c, d, e], _ => rfl
end ShaM

/- A sum that is added up, in memory. No condition. -/
set_option linter.unusedVariables false
namespace Go.Proofs.YtaaimcbicpgjoaaGreatDoor
open Go Vc ShaM Go.Proofs

/-- A sum that is added up: t has been written. -/
structure HashAt (w : World) (b lo : Nat) (sl : Sl) (T : TypeId) (f : List ShaM.W → List UInt8 → List ShaM.W) (st : List ShaM.W) (t : List UInt8) : Prop where
  lob : lo ≤ b
  blk : ∃ r : ByteArray, r.data.toList = rest t ∧ w.heap[b]? = some (.cells #[.slice sl.a sl.len sl.cap, .string r, .int .u64 (t.length : Int)] T)
  len : t.length ≤ 72057594037927936
  ne : ∀ y, sl.a = some y → y.block ≠ b
  own : (sl = ⟨none, 0, 0⟩ ∧ t = []) ∨ (Vc.Own w lo T_uint32 sl (uv (stt f st t)) ∧ sl.a ≠ none)
theorem HashAt.keep {w w2 : World} {b lo : Nat} {sl : Sl} {T : TypeId} {f : List ShaM.W → List UInt8 → List ShaM.W} {st : List ShaM.W} {t : List UInt8} (h : HashAt w b lo sl T f st t) {X : Nat → Prop} (hf : Fr X w w2) (hb : ¬ X b) (hs : ∀ y, sl.a = some y → ¬ X y.block) : HashAt w2 b lo sl T f st t := by
  obtain ⟨r, h1, h2⟩ := h.blk
  refine ⟨h.lob, ⟨r, h1, hf.keep h2 hb⟩, h.len, h.ne, ?_⟩
  rcases h.own with h3 | ⟨h3, h4⟩
  · exact .inl h3
  · exact .inr ⟨h3.keep hf hs, h4⟩
theorem HashAt.zero {w w' : World} {T : TypeId} (f : List ShaM.W → List UInt8 → List ShaM.W) (st : List ShaM.W) (h : w' = w.alloc (.cells #[.slice none 0 0, .string ⟨#[]⟩, .int .u64 0] T)) : HashAt w' w.heap.size w.heap.size ⟨none, 0, 0⟩ T f st [] :=
  ⟨Nat.le_refl _, ⟨⟨#[]⟩, rfl, by rw [h]; exact alloc_new _ _⟩, Nat.zero_le _, (fun y hy => by cases hy), .inl ⟨rfl, rfl⟩⟩
theorem since_back {w w1 : World} {sl sl' : Sl} (f : Fr (fun _ => False) w w1) (h : Since w1 sl sl') : Since w sl sl' := fun y hy => by
  rcases h y hy with h | h
  · exact .inl h
  · exact .inr (by have := f.size; omega)
end Go.Proofs.YtaaimcbicpgjoaaGreatDoor

/- What write and sum of the package sha do, by block1. Conditions: the texts are short enough for a slice to hold (2 to the 56th). -/
set_option linter.unusedVariables false
namespace Go.Proofs.YtaaimcbicpgjoaaGreatDoor
open Go Vc ShaM Go.Proofs

theorem hw1_spec {w : World} {b lo : Nat} {sl : Sl} {T : TypeId} {t : List UInt8} (hh : HashAt w b lo sl T block1 start1 t) {a : Option Addr} (c : Nat) (hst : Reads w a (uv start1)) (x : ByteArray) (hx : t.length + x.size ≤ 72057594037927936) :
    Calls Tryz.prog F_sha_hash_write #[.pointer (some ⟨b, 0, none⟩), .string x, .slice a 5 c, .func (.func F_sha_block1) #[] #[]] w fun e w' =>
      e = .returned (.tuple #[]) ∧ ∃ sl', HashAt w' b lo sl' T block1 start1 (t ++ x.data.toList) ∧ sl'.a ≠ none ∧ Fr (fun k => k = b ∨ Vc.At sl k) w w' ∧ Since w sl sl' := by
  refine vc_sha_hash_write_1_ok (R := fun v w' => v = .tuple #[] ∧ ∃ sl', HashAt w' b lo sl' T block1 start1 (t ++ x.data.toList) ∧ sl'.a ≠ none ∧ Fr (fun k => k = b ∨ Vc.At sl k) w w' ∧ Since w sl sl') ?_ (fun v w' h => ⟨by rw [h.1], h.2⟩)
  obtain ⟨r, hr, hblk⟩ := hh.blk
  have hbw := lt_blk hblk
  have hlo := hh.lob
  have hxl : x.data.toList.length = x.size := by simp
  have hstl : (stt block1 start1 t).length = 5 := blocks_length (f := block1) (fun h p hl => by rw [block1_length]; exact hl) _ _ _ rfl
  have hrs : r.size = t.length % 64 := by rw [← rest_length, ← hr]; simp
  refine ⟨fun w6 => ∃ sl1, w6.heap[b]? = some (.cells #[.slice sl1.a sl1.len sl1.cap, .string r, .int .u64 (t.length : Int)] T) ∧ Vc.Own w6 lo T_uint32 sl1 (uv (stt block1 start1 t)) ∧ (∀ y, sl1.a = some y → y.block ≠ b) ∧ Fr (fun k => k = b ∨ Vc.At sl k) w w6 ∧ Since w sl sl1, ⟨sl, by rw [cell_blk hblk]; rfl, fun hnone => ?_, fun hsome => ?_⟩, ?_⟩
  · rcases hh.own with ⟨rfl, rfl⟩ | ⟨_, hne⟩
    · obtain ⟨w3, l4, hr3, o3, f3, s3⟩ := append_all' elU32 (Vc.Own.nil w lo T_uint32) c hst (one_uv _) (by simp only [List.length_nil, uv_len]; decide) (by simp only [List.length_nil, uv_len]; decide) (by omega) (m := 5) rfl
      rw [List.nil_append] at o3
      have f3' : Fr (fun _ => False) w w3 := f3.mono fun k hk ⟨y, hy, _⟩ => by cases hy
      have hb3 := f3'.keep hblk (by simp)
      refine ⟨w3, l4, hr3, wr_blk hb3 (by simp), ?_⟩
      intro w5 hw5
      have hb5 := set_blk hb3 0 (.slice l4.a l4.len l4.cap)
      rw [← hw5] at hb5
      have f5 : Fr (· = b) w3 w5 := hw5 ▸ Fr.set (· = b) _ (a := ⟨b, 0, none⟩) _ rfl
      have hne4 : ∀ y, l4.a = some y → y.block ≠ b := fun y hy => by
        rcases s3 y hy with ⟨z, hz, _⟩ | hn
        · cases hz
        · omega
      exact ⟨l4, hb5, o3.keep f5 (fun y hy => hne4 y hy), hne4, (f3'.mono (by simp)).trans f5 (fun k hk h => .inl h), s3⟩
    · exfalso
      cases hsa : sl.a with
      | none => exact hne hsa
      | some y => rw [hsa] at hnone; cases hnone
  · rcases hh.own with ⟨rfl, rfl⟩ | ⟨ho, hne⟩
    · cases hsome
    · exact ⟨sl, hblk, ho, hh.ne, .refl _ _, .refl _ _⟩
  rintro w6 ⟨sl1, hb6, o6, hne1, f6, s6⟩
  refine ⟨_, by rw [cell_blk hb6]; rfl, wr_blk hb6 (by simp), ?_⟩
  intro w8 hw8
  have en : IntKind.u64.wrap ((t.length : Int) + IntKind.u64.wrap (x.size : Int)) = (((t ++ x.data.toList).length : Nat) : Int) := by
    rw [List.length_append, hxl, wrap_u64 (x := (x.size : Int)) (by omega) (by omega), wrap_u64 (by omega) (by omega)]; omega
  rw [en] at hw8
  have hb8 := set_blk hb6 2 (.int .u64 (((t ++ x.data.toList).length : Nat) : Int))
  rw [← hw8] at hb8
  have f8 : Fr (· = b) w6 w8 := hw8 ▸ Fr.set (· = b) _ (a := ⟨b, 2, none⟩) _ rfl
  refine ⟨r, by rw [cell_blk hb8]; rfl, by omega, ?_⟩
  have hX : ∀ k, k < w.heap.size → Vc.At sl1 k → (k = b ∨ Vc.At sl k) := fun k hk ⟨y, hy, e⟩ => by
    rcases s6 y hy with ⟨z, hz, hzb⟩ | hn
    · exact .inr ⟨z, hz, by omega⟩
    · omega
  obtain ⟨TT, hTT⟩ : ∃ TT, rest t ++ x.data.toList = TT := ⟨_, rfl⟩
  have hTl : TT.length = t.length % 64 + x.size := by rw [← hTT, List.length_append, rest_length, hxl]
  obtain ⟨q1, q2⟩ := step_all block1 start1 t x.data.toList
  rw [hTT] at q1 q2
  refine ⟨fun s w' => ∃ q : Nat, 64 * q ≤ TT.length ∧ s.data.toList = TT.drop (64 * q) ∧ w'.heap[b]? = some (.cells #[.slice sl1.a sl1.len sl1.cap, .string r, .int .u64 (((t ++ x.data.toList).length : Nat) : Int)] T) ∧ Vc.Own w' lo T_uint32 sl1 (uv (blocks block1 q (stt block1 start1 t) TT)) ∧ Fr (Vc.At sl1) w8 w',
    fun s _ => s.size, ⟨0, by omega, by rw [← hTT, ← hr]; simp, hb8, o6.keep f8 (fun y hy => hne1 y hy), .refl _ _⟩, ?_⟩
  rintro s w13 ⟨q, hq, hs, hb13, o13, f13⟩
  have hsz : s.size = TT.length - 64 * q := by
    have : s.data.toList.length = s.size := by simp
    rw [← this, hs, List.length_drop]
  refine ⟨fun hge => ?_, fun hlt => ?_⟩
  · have hge := of_decide_eq_true hge
    intro w14 d14
    refine ⟨fun w => w = w14, rfl, sl1, fun w hw => by rw [hw, d14.cell, cell_blk hb13]; rfl, ⟨by decide, by omega⟩, ?_⟩
    have hbl := blocks_length (f := block1) (fun h p hl => by rw [block1_length]; exact hl) q (stt block1 start1 t) TT hstl
    have hex : (s.extract 0 (Int.toNat 64)).data.toList = (TT.drop (64 * q)).take 64 := by
      rw [ext_toList, hs]; rfl
    refine (block1_spec (o13.drew d14) hbl (s.extract 0 (Int.toNat 64)) (by rw [ByteArray.size_extract]; show min 64 s.size - 0 = 64; omega)).mono ?_
    rintro e w19 ⟨rfl, o19, f19⟩
    rw [hex, ← blocks_step block1] at o19
    have hb19 : w19.heap[b]? = _ := f19.keep ((Fr.drew (fun _ => False) d14).keep hb13 (by simp)) (fun ⟨y, hy, e⟩ => hne1 y hy e.symm)
    refine ⟨rfl, ⟨by decide, by omega⟩, ⟨q + 1, by omega, ?_, hb19, o19, (f13.trans' (.drew _ d14)).trans' f19⟩, ?_⟩
    · rw [ext_toList, hs, List.take_of_length_le (by rw [List.length_drop, List.length_drop]; show _ ≤ s.size - 64; omega), List.drop_drop]
      congr 1
    · dsimp only
      rw [ByteArray.size_extract]
      show min s.size s.size - 64 < s.size
      omega
  · have hlt := of_decide_eq_false hlt
    have hq2 : q = TT.length / 64 := by omega
    subst hq2
    rw [q1] at o13
    rw [q2] at hs
    refine ⟨wr_blk hb13 (by simp), ?_⟩
    intro w20 hw20
    have hb20 := set_blk hb13 1 (.string s)
    rw [← hw20] at hb20
    have f20 : Fr (· = b) w13 w20 := hw20 ▸ Fr.set (· = b) _ (a := ⟨b, 1, none⟩) _ rfl
    have o20 := o13.keep f20 (fun y hy => hne1 y hy)
    have hstl2 : (stt block1 start1 (t ++ x.data.toList)).length = 5 := blocks_length (f := block1) (fun h p hl => by rw [block1_length]; exact hl) _ _ _ rfl
    refine ⟨rfl, sl1, ⟨hlo, ⟨s, hs, hb20⟩, by rw [List.length_append, hxl]; omega, hne1, .inr ⟨o20, fun hn => ?_⟩⟩, fun hn => ?_, ((f6.trans f8 (fun k hk h => .inl h)).trans f13 hX).trans f20 (fun k hk h => .inl h), s6⟩
    all_goals
      obtain ⟨y, hy, _⟩ := own_get o20 (i := 0) (by omega)
      rw [hn] at hy; cases hy
end Go.Proofs.YtaaimcbicpgjoaaGreatDoor

/- What is put behind a text, and a word as bytes, in plain. No condition. -/
set_option linter.unusedVariables false
namespace Go.Proofs.YtaaimcbicpgjoaaGreatDoor
open Go Vc ShaM Go.Proofs

/-- What is put behind the text, block1. -/
def tail1 (n : Nat) : List UInt8 := 0x80 :: List.replicate ((119 - n % 64) % 64) 0 ++ (List.range 8).map fun i => UInt8.ofNat (n * 8 / 2 ^ (56 - 8 * i))
theorem pad1_eq (t : List UInt8) : pad t = t ++ tail1 t.length := by simp [pad, tail1]
theorem outw1_eq (x : ShaM.W) : (Array.mk [Value.int .u8 (IntKind.u8.wrap (Int.fdiv (x.toNat : Int) (2 ^ min (Int.toNat 24) 32))), .int .u8 (IntKind.u8.wrap (Int.fdiv (x.toNat : Int) (2 ^ min (Int.toNat 16) 32))), .int .u8 (IntKind.u8.wrap (Int.fdiv (x.toNat : Int) (2 ^ min (Int.toNat 8) 32))), .int .u8 (IntKind.u8.wrap (x.toNat : Int))] : Array Value) = (byteV (outw x)).toArray := by
  have h : ∀ (n k : Nat), IntKind.u8.wrap (Int.fdiv (n : Int) ((k + 1 : Nat) : Int)) = (((UInt8.ofNat (n / (k + 1))).toNat : Nat) : Int) := fun n k => by
    rw [Int.fdiv_eq_ediv_of_nonneg _ (Int.natCast_nonneg _), ← Int.natCast_ediv, wrap_u8_mod, UInt8.toNat_ofNat']
    omega
  have h0 : IntKind.u8.wrap (x.toNat : Int) = (((UInt8.ofNat x.toNat).toNat : Nat) : Int) := by rw [wrap_u8_mod, UInt8.toNat_ofNat']; omega
  have p24 : (2 : Int) ^ min (Int.toNat 24) 32 = ((16777215 + 1 : Nat) : Int) := rfl
  have p16 : (2 : Int) ^ min (Int.toNat 16) 32 = ((65535 + 1 : Nat) : Int) := rfl
  have p8 : (2 : Int) ^ min (Int.toNat 8) 32 = ((255 + 1 : Nat) : Int) := rfl
  rw [p24, p16, p8, h, h, h, h0]
  rfl
end Go.Proofs.YtaaimcbicpgjoaaGreatDoor

/- What sum of the package sha does, by block1. Conditions: the texts are short enough for a slice to hold (2 to the 56th). -/
set_option linter.unusedVariables false
namespace Go.Proofs.YtaaimcbicpgjoaaGreatDoor
open Go Vc ShaM Go.Proofs

theorem hs1_spec {w : World} {b lo : Nat} {sl : Sl} {T : TypeId} {t : List UInt8} (hh : HashAt w b lo sl T block1 start1 t) {a : Option Addr} (c : Nat) (hst : Reads w a (uv start1)) (hx : t.length + 200 ≤ 72057594037927936) :
    Calls Tryz.prog F_sha_hash_sum #[.pointer (some ⟨b, 0, none⟩), .slice a 5 c, .func (.func F_sha_block1) #[] #[]] w fun e w' => e = .returned (.string ⟨(digest block1 start1 t).toArray⟩) ∧ Fr (fun _ => False) w w' := by
  refine vc_sha_hash_sum_1_ok (R := fun v w' => v = .string ⟨(digest block1 start1 t).toArray⟩ ∧ Fr (fun _ => False) w w') ?_ (fun v w' h => ⟨by rw [h.1], h.2⟩)
  obtain ⟨r, hr, hblk⟩ := hh.blk
  have hbw := lt_blk hblk
  have hrs : r.size = t.length % 64 := by rw [← rest_length, ← hr]; simp
  -- the copy's words
  have copy_ : ∀ w2, Fr (fun _ => False) w w2 → ∃ w3 l3, (Builtin.append_ #[T_S_uint32, T_S_uint32] T_S_uint32 #[.slice none 0 0, .slice sl.a sl.len sl.cap]).run Tryz.prog w2 = .ok (.slice l3.a l3.len l3.cap) w3 ∧ Fr (fun _ => False) w2 w3 ∧
      (∀ y, l3.a = some y → w2.heap.size ≤ y.block ∧ y.block < w3.heap.size) ∧ ((sl = ⟨none, 0, 0⟩ ∧ t = [] ∧ l3 = ⟨none, 0, 0⟩) ∨ (Vc.Own w3 w.heap.size T_uint32 l3 (uv (stt block1 start1 t)) ∧ sl.a ≠ none)) := fun w2 f2 => by
    have hsz := f2.size
    rcases hh.own with ⟨h1, h2⟩ | ⟨ho, hne⟩
    · obtain ⟨w3, l3, hr3, o3, f3, s3⟩ := append_all' (w := w2) elU32 (Vc.Own.nil w2 w.heap.size T_uint32) sl.cap (Reads.nil w2 sl.a) (by simp) (by decide) (by decide) hsz (m := sl.len) (by rw [h1]; rfl)
      have f3' : Fr (fun _ => False) w2 w3 := f3.mono fun k hk ⟨y, hy, _⟩ => by cases hy
      have hl3 : l3.a = none := by
        cases h : l3.a with
        | none => rfl
        | some y =>
          exfalso
          subst h1
          have hr4 := append_all' (w := w2) elU32 (Vc.Own.nil w2 w.heap.size T_uint32) 0 (Reads.nil w2 none) (by simp) (by decide) (by decide) hsz (m := 0) rfl
          have : (Builtin.append_ #[T_S_uint32, T_S_uint32] T_S_uint32 #[.slice none 0 0, .slice none 0 0]).run Tryz.prog w2 = .ok (.slice none 0 0) w2 := by
            obtain ⟨i, hi, hi2⟩ := Option.map_eq_some_iff.1 elU32.info
            simp [Builtin.append_, run_underlying elU32.sl, Go.sizeOf, typeInfo, hi, Builtin.lenOf, Builtin.firstCells]
          rw [this] at hr3
          simp only [Result.ok.injEq, Value.slice.injEq] at hr3
          rw [← hr3.1.1] at h; cases h
      have hl3' : l3 = ⟨none, 0, 0⟩ := by
        rcases o3.2 with ⟨_, q1, q2⟩ | ⟨g, cur, hg, _⟩
        · cases l3; simp_all
        · rw [hl3] at hg; cases hg
      exact ⟨w3, l3, hr3, f3', (fun y hy => by rw [hl3] at hy; cases hy), .inl ⟨h1, h2, hl3'⟩⟩
    · obtain ⟨w3, l3, hr3, o3, f3, s3⟩ := append_all' (w := w2) elU32 (Vc.Own.nil w2 w.heap.size T_uint32) sl.cap ((ho.keep f2 (by simp)).reads) (one_uv _) (by simp only [List.length_nil, uv_len, stt, blocks_length (f := block1) (fun h p hl => by rw [block1_length]; exact hl) _ _ _ (rfl : start1.length = 5)]; decide)
        (by simp only [List.length_nil, uv_len, stt, blocks_length (f := block1) (fun h p hl => by rw [block1_length]; exact hl) _ _ _ (rfl : start1.length = 5)]; decide) hsz (m := sl.len) ho.len.symm
      rw [List.nil_append] at o3
      have f3' : Fr (fun _ => False) w2 w3 := f3.mono fun k hk ⟨y, hy, _⟩ => by cases hy
      refine ⟨w3, l3, hr3, f3', fun y hy => ?_, .inr ⟨o3, hne⟩⟩
      rcases s3 y hy with ⟨z, hz, _⟩ | hn
      · cases hz
      · exact ⟨hn, (o3.blk hy).2⟩
  refine ⟨fun q w' => ∃ eb slE, q = ⟨eb, 0, none⟩ ∧ w.heap.size ≤ eb ∧ HashAt w' eb w.heap.size slE T_sha_hash block1 start1 t ∧ Fr (fun _ => False) w w', ?_, ?_⟩
  · intro w2 d2
    have f2 : Fr (fun _ => False) w w2 := .drew _ d2
    refine ⟨Fr (fun _ => False) w, f2, sl, fun w5 h5 => by rw [cell_blk (h5.keep hblk (by simp))]; rfl, r, fun w5 h5 => by rw [cell_blk (h5.keep hblk (by simp))]; rfl, _, fun w5 h5 => by rw [cell_blk (h5.keep hblk (by simp))]; rfl, ?_, ?_⟩
    · obtain ⟨w10, l11, hr10, f10, hb10, hc⟩ := copy_ w2 f2
      refine ⟨w10, l11, hr10, f2.trans' f10, ?_⟩
      intro w12 hw12
      have f12 : Fr (fun _ => False) w10 w12 := hw12 ▸ Fr.alloc _ _ _
      have hz12 := alloc_new w10 (.cells #[.slice none 0 0, .string ⟨#[]⟩, .int .u64 0] T_sha_hash)
      rw [← hw12] at hz12
      have h12 := (f2.trans' f10).trans' f12
      have hs := run_storeVar_row (P := Tryz.prog) w12 w10.heap.size T_sha_hash T_sha_hash _ #[.slice l11.a l11.len l11.cap, .string r, .int .u64 (t.length : Int)] hz12 (by kernel_rfl) rfl (by simp [Value.oneCell'])
      refine ⟨h12, _, hs, w10.heap.size, l11, rfl, (f2.trans' f10).size, ?_, ?_⟩
      · have hrow := setRow_heap w12 w10.heap.size _ #[.slice l11.a l11.len l11.cap, .string r, .int .u64 (t.length : Int)] T_sha_hash (0, 0) hz12
        have frow : Fr (· = w10.heap.size) w12 (w12.setRow w10.heap.size #[.slice l11.a l11.len l11.cap, .string r, .int .u64 (t.length : Int)]) := setRow_fr _ _ _ _ rfl
        refine ⟨(f2.trans' f10).size, ⟨r, hr, hrow⟩, hh.len, fun y hy => by have := (hb10 y hy).2; omega, ?_⟩
        rcases hc with ⟨_, h2, h3⟩ | ⟨h1, h2⟩
        · exact .inl ⟨h3, h2⟩
        · refine .inr ⟨(h1.keep f12 (by simp)).keep frow (fun y hy => by have := (hb10 y hy).2; omega), fun hn => ?_⟩
          obtain ⟨y, hy, _⟩ := own_get h1 (i := 0) (by rw [stt, blocks_length (f := block1) (fun h p hl => by rw [block1_length]; exact hl) _ _ _ (rfl : start1.length = 5)]; decide)
          rw [hn] at hy; cases hy
      · exact h12.trans (setRow_fr (· = w10.heap.size) _ _ _ rfl) (fun q hq h => by have := (f2.trans' f10).size; omega)
    · intro w14 hw14
      have f14 : Fr (fun _ => False) w2 w14 := hw14 ▸ Fr.alloc _ _ _
      have hz14 := alloc_new w2 (.cells #[.slice none 0 0, .string ⟨#[]⟩, .int .u64 0] T_sha_hash)
      rw [← hw14] at hz14
      have h14 := f2.trans' f14
      obtain ⟨w15, l16, hr15, f15, hb15, hc⟩ := copy_ w14 h14
      have hz15 := f15.keep hz14 (by simp)
      have hs := run_storeVar_row (P := Tryz.prog) w15 w2.heap.size T_sha_hash T_sha_hash _ #[.slice l16.a l16.len l16.cap, .string r, .int .u64 (t.length : Int)] hz15 (by kernel_rfl) rfl (by simp [Value.oneCell'])
      have h15 := h14.trans' f15
      have hlt14 := lt_blk hz14
      refine ⟨h14, w15, l16, hr15, h15, _, hs, w2.heap.size, l16, rfl, f2.size, ?_, ?_⟩
      · have hrow := setRow_heap w15 w2.heap.size _ #[.slice l16.a l16.len l16.cap, .string r, .int .u64 (t.length : Int)] T_sha_hash (0, 0) hz15
        have frow : Fr (· = w2.heap.size) w15 (w15.setRow w2.heap.size #[.slice l16.a l16.len l16.cap, .string r, .int .u64 (t.length : Int)]) := setRow_fr _ _ _ _ rfl
        refine ⟨f2.size, ⟨r, hr, hrow⟩, hh.len, fun y hy => by have := (hb15 y hy).1; omega, ?_⟩
        rcases hc with ⟨_, h2, h3⟩ | ⟨h1, h2⟩
        · exact .inl ⟨h3, h2⟩
        · refine .inr ⟨h1.keep frow (fun y hy => by have := (hb15 y hy).1; omega), fun hn => ?_⟩
          obtain ⟨y, hy, _⟩ := own_get h1 (i := 0) (by rw [stt, blocks_length (f := block1) (fun h p hl => by rw [block1_length]; exact hl) _ _ _ (rfl : start1.length = 5)]; decide)
          rw [hn] at hy; cases hy
      · exact h15.trans (setRow_fr (· = w2.heap.size) _ _ _ rfl) (fun q hq h => by have := f2.size; omega)
  rintro q w19 ⟨eb, slE, rfl, heb, hE, f19⟩
  have hb19 := f19.keep hblk (by simp)
  refine ⟨fun w' => ∃ slE, HashAt w' eb w.heap.size slE T_sha_hash block1 start1 t ∧ Fr (fun _ => False) w w', ⟨sl, by rw [cell_blk hb19]; rfl, fun hnone => ?_, fun _ => ⟨slE, hE, f19⟩⟩, ?_⟩
  · rcases hh.own with ⟨h1, h2⟩ | ⟨_, hne⟩
    · obtain ⟨r2, hr2, hblk2⟩ := hE.blk
      refine ⟨wr_blk hblk2 (by simp), ?_⟩
      intro w22 hw22
      have hb22 := set_blk hblk2 0 (.slice none 0 0)
      rw [← hw22] at hb22
      have f22 : Fr (· = eb) w19 w22 := hw22 ▸ Fr.set (· = eb) _ (a := ⟨eb, 0, none⟩) _ rfl
      exact ⟨⟨none, 0, 0⟩, ⟨heb, ⟨r2, hr2, hb22⟩, hh.len, (fun y hy => by cases hy), .inl ⟨rfl, h2⟩⟩, f19.trans f22 (fun q hq h => by omega)⟩
    · exfalso
      cases hsa : sl.a with
      | none => exact hne hsa
      | some y => rw [hsa] at hnone; cases hnone
  clear hE f19 hb19 slE
  rintro w23 ⟨slE, hE, f23⟩
  refine ⟨fun s w' => w' = w23 ∧ ∃ j : Nat, j ≤ (119 - t.length % 64) % 64 ∧ s.data.toList = 0x80 :: List.replicate j 0, fun s _ => 200 - s.size, ⟨rfl, 0, Nat.zero_le _, rfl⟩, ?_⟩
  rintro s26 w27 ⟨rfl, j, hj, hs26⟩
  have hb27 := f23.keep hblk (by simp)
  have hs26l : s26.size = j + 1 := by
    have : s26.data.toList.length = s26.size := by simp
    rw [← this, hs26]; simp
  have htl := hh.len
  have e0 : Int.tmod (IntKind.i64.wrap ((r.size : Int) + (s26.size : Int))) 64 = ((((t.length % 64) + j + 1) % 64 : Nat) : Int) := by
    rw [wrap_i64 (by omega) (by omega), Int.tmod_eq_emod_of_nonneg (by omega)]; omega
  have e00 : ((ByteArray.mk (Array.mk [0])).size : Nat) = 1 := rfl
  refine ⟨r, by rw [cell_blk hb27]; rfl, by decide, ?_⟩
  rw [e0]
  refine ⟨fun hne => ?_, fun heq => ?_⟩
  · have hne : ¬ ((t.length % 64) + j + 1) % 64 = 56 := fun h => by rw [h] at hne; exact absurd hne (by decide)
    have hsz : (s26 ++ ByteArray.mk (Array.mk [0])).size = j + 2 := by rw [ByteArray.size_append, hs26l]; rfl
    refine ⟨by omega, ⟨rfl, j + 1, by omega, ?_⟩, ?_⟩
    · rw [ByteArray.data_append, Array.toList_append, hs26, List.replicate_succ']; rfl
    · dsimp only; omega
  have heq : ((t.length % 64) + j + 1) % 64 = 56 := by
    by_cases h : ((t.length % 64) + j + 1) % 64 = 56
    · exact h
    · exfalso
      have : ((((t.length % 64 + j + 1) % 64 : Nat) : Int) != 56) = true := by simp; omega
      rw [this] at heq; cases heq
  have hjz : j = (119 - t.length % 64) % 64 := by omega
  obtain ⟨bs, hbs⟩ : ∃ bs : List UInt8, (List.range 8).map (fun i => UInt8.ofNat (t.length * 8 / 2 ^ (56 - 8 * i))) = bs := ⟨_, rfl⟩
  have hbl : bs.length = 8 := by rw [← hbs]; simp
  refine ⟨fun l i w' => ∃ m : Nat, m ≤ 8 ∧ i = 56 - 8 * (m : Int) ∧ Vc.Own w' w27.heap.size T_uint8 l (byteV (bs.take m)) ∧ Fr (fun _ => False) w27 w', fun _ i _ => (i + 8).toNat, ⟨0, by decide, rfl, Vc.Own.nil _ _ _, .refl _ _⟩, ?_⟩
  rintro l31 i w33 ⟨m, hm, rfl, o33, f33⟩
  refine ⟨fun hge => ?_, fun hlt => ?_⟩
  · have hge := of_decide_eq_true hge
    have hb33 := f33.keep hb27 (by simp)
    refine ⟨_, by rw [cell_blk hb33]; rfl, hge, ?_⟩
    have hm8 : m < 8 := by omega
    have hg : bs[m]'(by omega) = UInt8.ofNat (t.length * 8 / 2 ^ (56 - 8 * m)) := by
      have h1 : bs[m]? = some (UInt8.ofNat (t.length * 8 / 2 ^ (56 - 8 * m))) := by
        rw [← hbs, List.getElem?_map, List.getElem?_range hm8]; rfl
      exact (List.getElem?_eq_some_iff.1 h1).2
    have htk : bs.take (m + 1) = bs.take m ++ [UInt8.ofNat (t.length * 8 / 2 ^ (56 - 8 * m))] := by rw [List.take_succ_eq_append_getElem (by omega), hg]
    have ev : IntKind.u8.wrap (Int.fdiv (IntKind.u64.wrap ((t.length : Int) * 8)) (2 ^ min (Int.toNat (56 - 8 * (m : Int))) 64)) = (((UInt8.ofNat (t.length * 8 / 2 ^ (56 - 8 * m))).toNat : Nat) : Int) := by
      have h1 : min (Int.toNat (56 - 8 * (m : Int))) 64 = 56 - 8 * m := by omega
      have hp : (2 : Int) ^ (56 - 8 * m) = ((2 ^ (56 - 8 * m) : Nat) : Int) := by push_cast; rfl
      have h2 : IntKind.u64.wrap ((t.length : Int) * 8) = ((t.length * 8 : Nat) : Int) := by rw [wrap_u64 (by omega) (by omega)]; omega
      rw [h1, hp, h2, Int.fdiv_eq_ediv_of_nonneg _ (Int.natCast_nonneg _), ← Int.natCast_ediv, wrap_u8_mod, UInt8.toNat_ofNat']
      omega
    rw [ev]
    intro w35 hw35
    have hl : (byteV (bs.take m)).length = m := by rw [List.length_map, List.length_take, hbl]; omega
    obtain ⟨w36, l37, hr36, o36, f36⟩ := append_one elByte o33 (v := .int .u8 (((UInt8.ofNat (t.length * 8 / 2 ^ (56 - 8 * m))).toNat : Nat) : Int)) rfl (by rw [hl]; unfold maxLen; omega) (by rw [hl]; omega) f33.size hw35
    have e8 : IntKind.i64.wrap (56 - 8 * (m : Int) - 8) = 56 - 8 * ((m + 1 : Nat) : Int) := by rw [wrap_i64 (by omega) (by omega)]; omega
    rw [e8]
    refine ⟨w36, l37, hr36, ⟨m + 1, by omega, rfl, ?_, f33.trans f36 (fun q hq ⟨y, hy, e⟩ => by have := (o33.blk hy).1; omega)⟩, by dsimp only; omega⟩
    rw [htk, byteV, List.map_append]; exact o36
  have hlt := of_decide_eq_false hlt
  have : m = 8 := by omega
  subst this
  rw [List.take_of_length_le (by omega)] at o33
  have hlb : bs.length = l31.len := by rw [o33.len, List.length_map]
  refine ⟨w33, _, bytes_str elByte.sl (by kernel_rfl) (by kernel_rfl) _ o33.reads hlb, ?_⟩
  have hbsz : (ByteArray.mk bs.toArray).size = 8 := by show bs.toArray.size = 8; rw [List.size_toArray, hbl]
  refine ⟨by omega, ?_⟩
  have hE33 := hE.keep f33 (by simp) (by simp)
  have hX : (s26 ++ ByteArray.mk bs.toArray).data.toList = tail1 t.length := by
    rw [ByteArray.data_append, Array.toList_append, hs26, hjz, tail1, hbs]
  have hXs : (s26 ++ ByteArray.mk bs.toArray).size ≤ 80 := by rw [ByteArray.size_append]; omega
  refine (hw1_spec hE33 c ((hst.keep f23 (by simp)).keep f33 (by simp)) (s26 ++ ByteArray.mk bs.toArray) (by omega)).mono ?_
  rintro e w41 ⟨rfl, sl', hE41, hne41, f41, s41⟩
  rw [hX, ← pad1_eq] at hE41
  have hebl : w.heap.size ≤ eb := heb
  have fE : Fr (fun _ => False) w w41 := (f23.trans' f33).trans f41 (fun q hq h => by
    rcases h with h | ⟨y, hy, h⟩
    · omega
    · rcases hE33.own with ⟨h1, _⟩ | ⟨h1, _⟩
      · rw [h1] at hy; cases hy
      · have := (h1.blk hy).1; omega)
  obtain ⟨r41, hr41, hblk41⟩ := hE41.blk
  have o41 : Vc.Own w41 w.heap.size T_uint32 sl' (uv (stt block1 start1 (pad t))) := by
    rcases hE41.own with ⟨h1, h2⟩ | ⟨h1, _⟩
    · rw [h1] at hne41; exact absurd rfl hne41
    · exact h1
  have hWl : (stt block1 start1 (pad t)).length = 5 := blocks_length (f := block1) (fun h p hl => by rw [block1_length]; exact hl) _ _ _ rfl
  refine ⟨rfl, sl', by rw [cell_blk hblk41]; rfl, ?_⟩
  have hsl' : sl'.len = 5 := by rw [o41.len, uv_len, hWl]
  have hdg : digest block1 start1 t = out (stt block1 start1 (pad t)) := rfl
  rw [hdg]
  generalize stt block1 start1 (pad t) = WS at o41 hWl
  refine ⟨fun l i w' => ∃ m : Nat, m ≤ 5 ∧ i = (m : Int) ∧ Vc.Own w' w41.heap.size T_uint8 l (byteV (out (WS.take m))) ∧ Fr (fun _ => False) w41 w', fun _ i _ => ((5 : Int) - i).toNat, ⟨0, by decide, rfl, Vc.Own.nil _ _ _, .refl _ _⟩, ?_⟩
  rintro l45 i w47 ⟨m, hm, rfl, o47, f47⟩
  have houtl : ∀ l : List ShaM.W, (out l).length = 4 * l.length := fun l => by
    induction l with
    | nil => rfl
    | cons x l ih => 
      show (outw x ++ out l).length = _
      rw [List.length_append, ih, List.length_cons]; simp only [outw, List.length_cons, List.length_nil]; omega
  refine ⟨fun hlt => ?_, fun hge => ?_⟩
  · have hlt := of_decide_eq_true hlt
    have hml : m < WS.length := by omega
    obtain ⟨y, hy, hc⟩ := own_get (o41.keep f47 (by simp)) (i := m) hml
    have e1 : IntKind.i64.wrap ((m : Int) + 1) = ((m + 1 : Nat) : Int) := by rw [wrap_i64 (by omega) (by omega)]; omega
    refine ⟨⟨by omega, by omega⟩, y, hy, _, by rw [Int.toNat_natCast, Nat.mul_one]; exact hc, by decide, by decide, by decide, ?_⟩
    rw [outw1_eq, e1]
    have hg : WS.getD m 0 = WS[m] := by rw [List.getD_eq_getElem?_getD, List.getElem?_eq_getElem hml]; rfl
    rw [hg]
    have htk : out (WS.take (m + 1)) = out (WS.take m) ++ outw WS[m] := by
      rw [List.take_succ_eq_append_getElem hml, out, List.flatMap_append]; simp [out]
    generalize WS[m] = x at htk
    intro w50 hw50
    have f50 : Fr (fun _ => False) w47 w50 := hw50 ▸ Fr.alloc _ _ _
    have hz50 := alloc_new w47 (.cells (byteV (outw x)).toArray T_uint8)
    rw [← hw50] at hz50
    have hrd : Reads w50 (some ⟨w47.heap.size, 0, none⟩) (byteV (outw x)) := fun i v hv => by
      refine ⟨_, rfl, ?_⟩
      rw [add_lit, cell_blk hz50, Nat.zero_add, ← hv]; simp
    have hl : (byteV (out (WS.take m))).length = 4 * m := by rw [List.length_map, houtl, List.length_take]; omega
    obtain ⟨w51, l52, hr51, o51, f51⟩ := append_all elByte (o47.keep f50 (by simp)) 4 hrd (byteV_one _) (by rw [hl]; simp [outw, maxLen]; omega) (by rw [hl]; simp [outw]; omega) (f47.trans' f50).size (m := 4) (by simp [outw])
    refine ⟨w51, l52, hr51, ⟨m + 1, by omega, rfl, ?_, (f47.trans' f50).trans f51 (fun q hq ⟨y, hy, e⟩ => by have := (o47.blk hy).1; omega)⟩, by dsimp only; omega⟩
    rw [htk, byteV, List.map_append]; exact o51
  · have hge := of_decide_eq_false hge
    have : m = 5 := by omega
    subst this
    rw [List.take_of_length_le (by omega)] at o47
    exact ⟨w47, _, bytes_str elByte.sl (by kernel_rfl) (by kernel_rfl) _ o47.reads (by rw [o47.len, List.length_map]), rfl, fE.trans' f47⟩
end Go.Proofs.YtaaimcbicpgjoaaGreatDoor

/- Hash1 and Sum1 of the package sha. Conditions: the texts are short enough for a slice to hold (2 to the 56th). -/
set_option linter.unusedVariables false
namespace Go.Proofs.YtaaimcbicpgjoaaGreatDoor
open Go Vc ShaM Go.Proofs

theorem start1_spec (w : World) : Calls Tryz.prog F_sha_start1 #[] w fun e w' => e = .returned (.slice (some ⟨w.heap.size, 0, none⟩) 5 5) ∧ Vc.Own w' w.heap.size T_uint32 ⟨some ⟨w.heap.size, 0, none⟩, 5, 5⟩ (uv start1) ∧ Fr (fun _ => False) w w' := by
  refine vc_sha_start1_ok (R := fun v w' => v = .slice (some ⟨w.heap.size, 0, none⟩) 5 5 ∧ Vc.Own w' w.heap.size T_uint32 ⟨some ⟨w.heap.size, 0, none⟩, 5, 5⟩ (uv start1) ∧ Fr (fun _ => False) w w') ?_ (fun v w' h => ⟨by rw [h.1], h.2⟩)
  intro w1 hw1
  exact ⟨rfl, ⟨rfl, .inr ⟨w.heap.size, _, rfl, Nat.le_refl _, hw1 ▸ alloc_new _ _, Nat.le_refl _, by simp [maxLen], rfl, rfl⟩⟩, hw1 ▸ Fr.alloc _ _ _⟩
section
variable {w : World} {b lo : Nat} {sl : Sl} {T : TypeId} {t : List UInt8}
theorem h1write_spec (hh : HashAt w b lo sl T block1 start1 t) (x : ByteArray) (hx : t.length + x.size ≤ 72057594037927936) :
    Calls Tryz.prog F_sha_Hash1_Write #[.pointer (some ⟨b, 0, none⟩), .string x] w fun e w' =>
      e = .returned (.tuple #[]) ∧ ∃ sl', HashAt w' b lo sl' T block1 start1 (t ++ x.data.toList) ∧ Fr (fun k => k = b ∨ Vc.At sl k) w w' ∧ Since w sl sl' := by
  refine vc_sha_Hash1_Write_ok (R := fun v w' => v = .tuple #[] ∧ ∃ sl', HashAt w' b lo sl' T block1 start1 (t ++ x.data.toList) ∧ Fr (fun k => k = b ∨ Vc.At sl k) w w' ∧ Since w sl sl') ?_ (fun v w' h => ⟨by rw [h.1], h.2⟩)
  intro w1 d1
  refine ⟨fun _ => True, trivial, (start1_spec w1).mono ?_⟩
  rintro e w4 ⟨rfl, o4, f4⟩
  have f14 : Fr (fun _ => False) w w4 := (Fr.drew _ d1).trans' f4
  refine ⟨⟨_, 5, 5⟩, rfl, trivial, ?_⟩
  refine (hw1_spec (hh.keep f14 (by simp) (by simp)) 5 o4.reads x hx).mono ?_
  rintro e w7 ⟨rfl, sl', h7, _, f7, s7⟩
  exact ⟨rfl, rfl, sl', h7, (f14.mono (by simp)).trans f7 (fun k _ h => h), since_back f14 s7⟩
theorem h1sum_spec (hh : HashAt w b lo sl T block1 start1 t) (hx : t.length + 200 ≤ 72057594037927936) :
    Calls Tryz.prog F_sha_Hash1_Sum #[.pointer (some ⟨b, 0, none⟩)] w fun e w' => e = .returned (.string ⟨(digest block1 start1 t).toArray⟩) ∧ Fr (fun _ => False) w w' := by
  refine vc_sha_Hash1_Sum_ok (R := fun v w' => v = .string ⟨(digest block1 start1 t).toArray⟩ ∧ Fr (fun _ => False) w w') ?_ (fun v w' h => ⟨by rw [h.1], h.2⟩)
  intro w1 d1
  refine ⟨fun _ => True, trivial, (start1_spec w1).mono ?_⟩
  rintro e w4 ⟨rfl, o4, f4⟩
  have f14 : Fr (fun _ => False) w w4 := (Fr.drew _ d1).trans' f4
  refine ⟨⟨_, 5, 5⟩, rfl, trivial, ?_⟩
  refine (hs1_spec (hh.keep f14 (by simp) (by simp)) 5 o4.reads hx).mono ?_
  rintro e w7 ⟨rfl, f7⟩
  exact ⟨_, rfl, trivial, rfl, f14.trans' f7⟩
end
theorem sum1_spec (x : ByteArray) (hx : x.size + 200 ≤ 72057594037927936) (w : World) : Calls Tryz.prog F_sha_Sum1 #[.string x] w fun e w' => e = .returned (.string ⟨(digest block1 start1 x.data.toList).toArray⟩) ∧ Fr (fun _ => False) w w' := by
  refine vc_sha_Sum1_ok (R := fun v w' => v = .string ⟨(digest block1 start1 x.data.toList).toArray⟩ ∧ Fr (fun _ => False) w w') ?_ (fun v w' h => ⟨by rw [h.1], h.2⟩)
  intro w1 hw1
  have f1 : Fr (fun _ => False) w w1 := hw1 ▸ Fr.alloc _ _ _
  have h1 := HashAt.zero (T := T_sha_Hash1) block1 start1 hw1
  refine (h1write_spec h1 x (by simp; omega)).mono ?_
  rintro e w3 ⟨rfl, sl', h3, f3, _⟩
  refine ⟨rfl, (h1sum_spec h3 (by simp; omega)).mono ?_⟩
  rintro e w5 ⟨rfl, f5⟩
  refine ⟨_, rfl, rfl, (f1.trans f3 (fun k hk h => ?_)).trans' f5⟩
  rcases h with h | ⟨y, hy, _⟩
  · omega
  · cases hy
end Go.Proofs.YtaaimcbicpgjoaaGreatDoor

/- Structures of the kit over its shelf, at this seat (written by a program of the author's, laysn.py). No condition. -/
namespace Go.Proofs.YtaaimcbicpgjoaaGreatDoor
open Go Go.Shelf Go.Proofs
def lays171_ren : Go.Shelf.Ren := ⟨fun | 129 => 85 | 171 => 53 | 243 => 75 | 246 => 97 | 283 => 110 | 284 => 111 | 285 => 112 | 286 => 113 | 317 => 121 | 318 => 122 | 319 => 123 | 320 => 124 | 337 => 127 | 338 => 128 | n => n, fun | 0 => 0 | 171 => 169 | 173 => 171 | 2 => 2 | 20 => 20 | 212 => 181 | 213 => 182 | 232 => 184 | 233 => 185 | 3 => 3 | 37 => 60 | 4 => 4 | 46 => 75 | 5 => 5 | 51 => 31 | 53 => 57 | 9 => 9 | n => n, fun | 17 => 1 | 18 => 2 | 19 => 3 | n => n⟩
theorem lays171 : Go.Proofs.Lays.n171 Tryz.prog lays171_ren := {
  mixed := by kernel_rfl,
  f129 := Tryz.func85.trans (congrArg some (by kernel_rfl)),
  f171 := Tryz.func53.trans (congrArg some (by kernel_rfl)),
  f243 := Tryz.func75.trans (congrArg some (by kernel_rfl)),
  f246 := Tryz.func97.trans (congrArg some (by kernel_rfl)),
  f283 := Tryz.func110.trans (congrArg some (by kernel_rfl)),
  f284 := Tryz.func111.trans (congrArg some (by kernel_rfl)),
  f285 := Tryz.func112.trans (congrArg some (by kernel_rfl)),
  f286 := Tryz.func113.trans (congrArg some (by kernel_rfl)),
  f317 := Tryz.func121.trans (congrArg some (by kernel_rfl)),
  f318 := Tryz.func122.trans (congrArg some (by kernel_rfl)),
  f319 := Tryz.func123.trans (congrArg some (by kernel_rfl)),
  f320 := Tryz.func124.trans (congrArg some (by kernel_rfl)),
  f337 := Tryz.func127.trans (congrArg some (by kernel_rfl)),
  f338 := Tryz.func128.trans (congrArg some (by kernel_rfl)),
  t0 := Tryz.underlying0,
  a0 := Tryz.isAgg0,
  z0 := Tryz.sizeOf0,
  v0 := Tryz.zeroValue0,
  t2 := Tryz.underlying2,
  a2 := Tryz.isAgg2,
  z2 := Tryz.sizeOf2,
  v2 := Tryz.zeroValue2,
  t3 := Tryz.underlying3,
  a3 := Tryz.isAgg3,
  z3 := Tryz.sizeOf3,
  v3 := Tryz.zeroValue3,
  t4 := Tryz.underlying4,
  a4 := Tryz.isAgg4,
  z4 := Tryz.sizeOf4,
  v4 := Tryz.zeroValue4,
  t5 := Tryz.underlying5,
  a5 := Tryz.isAgg5,
  z5 := Tryz.sizeOf5,
  v5 := Tryz.zeroValue5,
  t9 := Tryz.underlying9,
  a9 := Tryz.isAgg9,
  z9 := Tryz.sizeOf9,
  v9 := Tryz.zeroValue9,
  t20 := Tryz.underlying20,
  a20 := Tryz.isAgg20,
  z20 := Tryz.sizeOf20,
  v20 := Tryz.zeroValue20,
  t37 := Tryz.underlying60,
  a37 := Tryz.isAgg60,
  z37 := Tryz.sizeOf60,
  v37 := Tryz.zeroValue60,
  t46 := Tryz.underlying75,
  a46 := Tryz.isAgg75,
  z46 := Tryz.sizeOf75,
  v46 := Tryz.zeroValue75,
  t51 := Tryz.underlying31,
  a51 := Tryz.isAgg31,
  z51 := Tryz.sizeOf31,
  v51 := Tryz.zeroValue31,
  t53 := Tryz.underlying57,
  a53 := Tryz.isAgg57,
  z53 := Tryz.sizeOf57,
  v53 := Tryz.zeroValue57,
  t171 := Tryz.underlying169,
  a171 := Tryz.isAgg169,
  z171 := Tryz.sizeOf169,
  v171 := Tryz.zeroValue169,
  t173 := Tryz.underlying171,
  a173 := Tryz.isAgg171,
  z173 := Tryz.sizeOf171,
  v173 := Tryz.zeroValue171,
  t212 := Tryz.underlying181,
  a212 := Tryz.isAgg181,
  z212 := Tryz.sizeOf181,
  v212 := Tryz.zeroValue181,
  t213 := Tryz.underlying182,
  a213 := Tryz.isAgg182,
  z213 := Tryz.sizeOf182,
  t232 := Tryz.underlying184,
  a232 := Tryz.isAgg184,
  z232 := Tryz.sizeOf184,
  v232 := Tryz.zeroValue184,
  t233 := Tryz.underlying185,
  a233 := Tryz.isAgg185,
  z233 := Tryz.sizeOf185,
  v233 := Tryz.zeroValue185,
  g17 := by kernel_rfl,
  g18 := by kernel_rfl,
  g19 := by kernel_rfl }
theorem laysM171 : Go.Proofs.LaysM.n171 Tryz.prog lays171_ren := { lays171 with
  i0 := by kernel_rfl,
  i2 := by kernel_rfl,
  i3 := by kernel_rfl,
  i4 := by kernel_rfl,
  i5 := by kernel_rfl,
  i9 := by kernel_rfl,
  i20 := by kernel_rfl,
  i37 := by kernel_rfl,
  i46 := by kernel_rfl,
  i51 := by kernel_rfl,
  i53 := by kernel_rfl,
  i171 := by kernel_rfl,
  i173 := by kernel_rfl,
  i212 := by kernel_rfl,
  i232 := by kernel_rfl,
  i233 := by kernel_rfl,
  m17 := by kernel_rfl,
  m18 := by kernel_rfl,
  m19 := by kernel_rfl }
end Go.Proofs.YtaaimcbicpgjoaaGreatDoor

/- Formulas of 4 Go functions of this seat (written by a program of the author's, vcgen.py), and that each is enough for the call. No condition. -/
set_option linter.unusedVariables false
namespace Go.Proofs.YtaaimcbicpgjoaaGreatDoor
open Go Vc Go.Proofs
set_option maxRecDepth 100000
/-- object.Name -/
def vc_object_Name (x0 : Int) (w : World) (R : Value → World → Prop) : Prop :=
 ((((x0 == 1) = true →
 R (Value.string (ByteArray.mk (Array.mk [99, 111, 109, 109, 105, 116]))) w)) ∧
 ((x0 == 1) = false →
 ((((x0 == 2) = true →
 R (Value.string (ByteArray.mk (Array.mk [116, 114, 101, 101]))) w)) ∧
 ((x0 == 2) = false →
 ((((x0 == 3) = true →
 R (Value.string (ByteArray.mk (Array.mk [98, 108, 111, 98]))) w)) ∧
 ((x0 == 3) = false →
 ((((x0 == 4) = true →
 R (Value.string (ByteArray.mk (Array.mk [116, 97, 103]))) w)) ∧
 ((x0 == 4) = false →
 R (Value.string (ByteArray.mk (Array.mk []))) w))))))))
theorem vc_object_Name_ok {x0 : Int} {w : World} {R : Value → World → Prop} {R' : Ending → World → Prop} (h : vc_object_Name x0 w R) (hR : ∀ v w', R v w' → R' (.returned v) w') :
    Calls Tryz.prog 44 #[.int .i64 x0] w R' :=
  calls_of_body (vs := [(.int .i64 x0, false)]) (ty := ty) (ann := ⟨[], [], [], []⟩) (c := Tryz.f44.body.getD .skip) (by kernel_rfl) Tryz.func44 (by kernel_rfl) (by kernel_rfl) (Eq.mp (by kernel_rfl) h) hR
/-- object.Check -/
def vc_object_Check (x0_0 : Int) (x0_1 : ByteArray) (w : World) (R : Value → World → Prop) : Prop :=
 ∀ w1 : World,
 (w1 = World.alloc w (Obj.cells (Array.mk [Value.int IntKind.i64 x0_0, Value.string x0_1]) 36) →
 ∃ n2 : Int, (World.cell? w1 (Addr.mk (Array.size (World.heap w)) 0 none) = some (Value.int IntKind.i64 n2) ∧
 Calls Tryz.prog (44 : Nat) (Array.mk [Value.int IntKind.i64 n2]) (w1) (fun e3 w4 =>
 ∃ s5 : ByteArray, (e3 = Ending.returned (Value.string s5) ∧
 ((((ByteArray.toList s5 == ByteArray.toList (ByteArray.mk (Array.mk []))) = true →
 R (Value.int IntKind.i64 10) w4)) ∧
 ((ByteArray.toList s5 == ByteArray.toList (ByteArray.mk (Array.mk []))) = false →
 ∃ s6 : ByteArray, (World.cell? w4 (Addr.mk (Array.size (World.heap w)) 1 none) = some (Value.string s6) ∧
 (((decide ((↑(ByteArray.size s6) : Int) > 65000) = true →
 R (Value.int IntKind.i64 2) w4)) ∧
 (decide ((↑(ByteArray.size s6) : Int) > 65000) = false →
 R (Value.int IntKind.i64 0) w4)))))))))
theorem vc_object_Check_ok {x0_0 : Int} {x0_1 : ByteArray} {w : World} {R : Value → World → Prop} {R' : Ending → World → Prop} (h : vc_object_Check x0_0 x0_1 w R) (hR : ∀ v w', R v w' → R' (.returned v) w') :
    Calls Tryz.prog 18 #[.agg #[.int .i64 x0_0, .string x0_1]] w R' :=
  calls_of_body (vs := [(.agg #[.int .i64 x0_0, .string x0_1], false)]) (ty := ty) (ann := ⟨[], [], [], []⟩) (c := Tryz.f18.body.getD .skip) (by kernel_rfl) Tryz.func18 (by kernel_rfl) (by kernel_rfl) (Eq.mp (by kernel_rfl) h) hR
/-- object.Encode -/
def vc_object_Encode (x0_0 : Int) (x0_1 : ByteArray) (w : World) (R : Value → World → Prop) : Prop :=
 ∀ w1 : World,
 (w1 = World.alloc w (Obj.cells (Array.mk [Value.int IntKind.i64 x0_0, Value.string x0_1]) 36) →
 ∃ n2 : Int, ∃ s3 : ByteArray, (Sem.run Tryz.prog (loadVar 36 (Addr.mk (Array.size (World.heap w)) 0 none)) w1 = Result.ok (Value.agg (Array.mk [Value.int IntKind.i64 n2, Value.string s3])) w1 ∧
 Calls Tryz.prog (18 : Nat) (Array.mk [Value.agg (Array.mk [Value.int IntKind.i64 n2, Value.string s3])]) (w1) (fun e4 w5 =>
 ∃ n6 : Int, (e4 = Ending.returned (Value.int IntKind.i64 n6) ∧
 ((((n6 != 0) = true →
 R (Value.tuple (Array.mk [Value.string (ByteArray.mk (Array.mk [])), Value.int IntKind.i64 n6])) w5)) ∧
 ((n6 != 0) = false →
 ∀ w7 : World,
 (Drew w5 w7 →
 ∃ I8 : World → Prop, (I8 w7 ∧
 ∃ n9 : Int, ((∀ w10 : World,
 (I8 w10 →
 World.cell? w10 (Addr.mk (Array.size (World.heap w)) 0 none) = some (Value.int IntKind.i64 n9))) ∧
 ∃ s11 : ByteArray, ((∀ w12 : World,
 (I8 w12 →
 World.cell? w12 (Addr.mk (Array.size (World.heap w)) 1 none) = some (Value.string s11))) ∧
 ∃ s13 : ByteArray, ((∀ w14 : World,
 (I8 w14 →
 World.cell? w14 (Addr.mk (Array.size (World.heap w)) 1 none) = some (Value.string s13))) ∧
 Calls Tryz.prog (44 : Nat) (Array.mk [Value.int IntKind.i64 n9]) (w7) (fun e15 w16 =>
 ∃ s17 : ByteArray, (e15 = Ending.returned (Value.string s17) ∧
 (I8 w16 ∧
 (ByteArray.size s17 + ByteArray.size (ByteArray.mk (Array.mk [32])) ≤ 9223372036854775807 ∧
 Calls Tryz.prog (53 : Nat) (Array.mk [Value.int IntKind.i64 (↑(ByteArray.size s11) : Int)]) (w16) (fun e18 w19 =>
 ∃ s20 : ByteArray, (e18 = Ending.returned (Value.string s20) ∧
 (I8 w19 ∧
 (ByteArray.size (s17 ++ ByteArray.mk (Array.mk [32])) + ByteArray.size s20 ≤ 9223372036854775807 ∧
 (ByteArray.size (s17 ++ ByteArray.mk (Array.mk [32]) ++ s20) + ByteArray.size (ByteArray.mk (Array.mk [0])) ≤ 9223372036854775807 ∧
 (ByteArray.size (s17 ++ ByteArray.mk (Array.mk [32]) ++ s20 ++ ByteArray.mk (Array.mk [0])) + ByteArray.size s13 ≤ 9223372036854775807 ∧
 R (Value.tuple (Array.mk [Value.string (s17 ++ ByteArray.mk (Array.mk [32]) ++ s20 ++ ByteArray.mk (Array.mk [0]) ++ s13), Value.int IntKind.i64 0])) w19)))))))))))))))))))))
theorem vc_object_Encode_ok {x0_0 : Int} {x0_1 : ByteArray} {w : World} {R : Value → World → Prop} {R' : Ending → World → Prop} (h : vc_object_Encode x0_0 x0_1 w R) (hR : ∀ v w', R v w' → R' (.returned v) w') :
    Calls Tryz.prog 27 #[.agg #[.int .i64 x0_0, .string x0_1]] w R' :=
  calls_of_body (vs := [(.agg #[.int .i64 x0_0, .string x0_1], false)]) (ty := ty) (ann := ⟨[], [], [(4, .held [(0, true), (1, true), (4, true), (5, true), (6, true), (10, true), (11, true), (2, false), (3, true), (7, false), (8, true), (9, true), (12, true), (13, true), (14, true)])], []⟩) (c := Tryz.f27.body.getD .skip) (by kernel_rfl) Tryz.func27 (by kernel_rfl) (by kernel_rfl) (Eq.mp (by kernel_rfl) h) hR
/-- object.Id -/
def vc_object_Id (x0_0 : Int) (x0_1 : ByteArray) (w : World) (R : Value → World → Prop) : Prop :=
 ∀ w1 : World,
 (w1 = World.alloc w (Obj.cells (Array.mk [Value.int IntKind.i64 x0_0, Value.string x0_1]) 36) →
 ∃ n2 : Int, ∃ s3 : ByteArray, (Sem.run Tryz.prog (loadVar 36 (Addr.mk (Array.size (World.heap w)) 0 none)) w1 = Result.ok (Value.agg (Array.mk [Value.int IntKind.i64 n2, Value.string s3])) w1 ∧
 Calls Tryz.prog (27 : Nat) (Array.mk [Value.agg (Array.mk [Value.int IntKind.i64 n2, Value.string s3])]) (w1) (fun e4 w5 =>
 ∃ s6 : ByteArray, ∃ n7 : Int, (e4 = Ending.returned (Value.tuple (Array.mk [Value.string s6, Value.int IntKind.i64 n7])) ∧
 ((((n7 != 0) = true →
 R (Value.tuple (Array.mk [Value.string (ByteArray.mk (Array.mk [])), Value.int IntKind.i64 n7])) w5)) ∧
 ((n7 != 0) = false →
 Calls Tryz.prog (24 : Nat) (Array.mk [Value.string s6]) (w5) (fun e8 w9 =>
 ∃ s10 : ByteArray, (e8 = Ending.returned (Value.string s10) ∧
 Calls Tryz.prog (9 : Nat) (Array.mk [Value.string s10]) (w9) (fun e11 w12 =>
 ∃ s13 : ByteArray, (e11 = Ending.returned (Value.string s13) ∧
 R (Value.tuple (Array.mk [Value.string s13, Value.int IntKind.i64 0])) w12))))))))))
theorem vc_object_Id_ok {x0_0 : Int} {x0_1 : ByteArray} {w : World} {R : Value → World → Prop} {R' : Ending → World → Prop} (h : vc_object_Id x0_0 x0_1 w R) (hR : ∀ v w', R v w' → R' (.returned v) w') :
    Calls Tryz.prog 7 #[.agg #[.int .i64 x0_0, .string x0_1]] w R' :=
  calls_of_body (vs := [(.agg #[.int .i64 x0_0, .string x0_1], false)]) (ty := ty) (ann := ⟨[], [], [], []⟩) (c := Tryz.f7.body.getD .skip) (by kernel_rfl) Tryz.func7 (by kernel_rfl) (by kernel_rfl) (Eq.mp (by kernel_rfl) h) hR
end Go.Proofs.YtaaimcbicpgjoaaGreatDoor

/- Objects: Name, Kind, Number of at most five digits. Conditions: as named. -/
set_option linter.unusedVariables false
namespace Go.Proofs.YtaaimcbicpgjoaaGreatDoor
open Go Vc HexM ShaM Go.Proofs

def kname (k : Int) : ByteArray := if k = 1 then ⟨#[99, 111, 109, 109, 105, 116]⟩ else if k = 2 then ⟨#[116, 114, 101, 101]⟩ else if k = 3 then ⟨#[98, 108, 111, 98]⟩ else if k = 4 then ⟨#[116, 97, 103]⟩ else ⟨#[]⟩
theorem oname_spec (k : Int) (w : World) : Calls Tryz.prog F_object_Name #[.int .i64 k] w fun e w' => e = .returned (.string (kname k)) ∧ w' = w := by
  refine vc_object_Name_ok (R := fun v w' => v = .string (kname k) ∧ w' = w) ?_ (fun v w' h => ⟨by rw [h.1], h.2⟩)
  have bq : ∀ {a b : Int} {r : Bool}, (a == b) = r → decide (a = b) = r := fun h => by rw [← h]; rfl
  unfold kname
  refine ⟨fun h => ?_, fun h => ⟨fun h2 => ?_, fun h2 => ⟨fun h3 => ?_, fun h3 => ⟨fun h4 => ?_, fun h4 => ?_⟩⟩⟩⟩
  · rw [if_pos (eq_of_beq h)]; exact ⟨rfl, rfl⟩
  · rw [if_neg (of_decide_eq_false (bq h)), if_pos (eq_of_beq h2)]; exact ⟨rfl, rfl⟩
  · rw [if_neg (of_decide_eq_false (bq h)), if_neg (of_decide_eq_false (bq h2)), if_pos (eq_of_beq h3)]; exact ⟨rfl, rfl⟩
  · rw [if_neg (of_decide_eq_false (bq h)), if_neg (of_decide_eq_false (bq h2)), if_neg (of_decide_eq_false (bq h3)), if_pos (eq_of_beq h4)]; exact ⟨rfl, rfl⟩
  · rw [if_neg (of_decide_eq_false (bq h)), if_neg (of_decide_eq_false (bq h2)), if_neg (of_decide_eq_false (bq h3)), if_neg (of_decide_eq_false (bq h4))]; exact ⟨rfl, rfl⟩
def isKind (k : Int) : Prop := k = 1 ∨ k = 2 ∨ k = 3 ∨ k = 4
theorem kname_ok {k : Int} (h : isKind k) : kname k ≠ ⟨#[]⟩ ∧ (kname k).size ≤ 6 ∧ (0 : UInt8) ∉ (kname k).data.toList ∧ (32 : UInt8) ∉ (kname k).data.toList := by
  rcases h with rfl | rfl | rfl | rfl <;> exact ⟨by decide, by decide, by decide, by decide⟩
theorem kname_no {k : Int} (h : ¬ isKind k) : kname k = ⟨#[]⟩ := by
  unfold isKind at h
  unfold kname
  rw [if_neg (fun e => h (.inl e)), if_neg (fun e => h (.inr (.inl e))), if_neg (fun e => h (.inr (.inr (.inl e)))), if_neg (fun e => h (.inr (.inr (.inr e))))]
theorem ogrow_fr (w : World) (q : Nat) (os : Array Obj) : Fr (fun _ => False) w (Sort.grow (w.drewN q) os) :=
  ⟨rfl, rfl, rfl, by simp [Sort.grow, World.drewN], fun k hk _ => by
    have hk' : k < (w.drewN q).heap.size := hk
    exact Sort.heap_grow_old _ _ hk'⟩
/-- The table that Itoa looks into. -/
def Tab10 (w : World) : Prop := Lib.TabIs Tryz.prog w "internal/strconv.uint64pow10" .u64 Lib.pow10Tab
theorem Tab10.keep {w w1 : World} (h : Tab10 w) (hf : Fr (fun _ => False) w w1) : Tab10 w1 := by
  unfold Tab10 Lib.TabIs World.var? at h ⊢
  obtain ⟨g, hg, h2⟩ := Option.bind_eq_some_iff.1 h
  rw [hg, Option.bind_some]
  cases hb : w.heap[g]? with
  | none => rw [hb] at h2; cases h2
  | some o =>
    rw [hb] at h2
    have := hf.blk g (lt_blk hb) (by simp)
    rw [this, hb]; exact h2
theorem decFrom_snoc (b : UInt8) : ∀ (l : List UInt8) (acc : Nat), Lib.decFrom acc (l ++ [b]) = (Lib.decFrom acc l).bind fun n => (Lib.digitVal b).map fun d => n * 10 + d
  | [], acc => by
    simp only [List.nil_append, Lib.decFrom, Option.bind_some]
    cases Lib.digitVal b <;> rfl
  | c :: r, acc => by
    rw [List.cons_append, Lib.decFrom, Lib.decFrom]
    cases Lib.digitVal c with
    | none => rfl
    | some d => exact decFrom_snoc b r _
theorem digit_val {d : Nat} (h : d < 10) : Lib.digitVal (UInt8.ofNat (48 + d)) = some d := by
  unfold Lib.digitVal
  rw [toNat_of _ (by omega), if_pos (by omega)]
  congr 1; omega
theorem dec_from : ∀ u : Nat, Lib.decFrom 0 (Lib.decDigits u) = some u := fun u => by
  induction u using Nat.strongRecOn with
  | _ u ih =>
    rw [Lib.decDigits]
    by_cases h : u < 10
    · rw [dif_pos h]
      simp only [Lib.decFrom, digit_val h, Nat.zero_mul, Nat.zero_add]
    · rw [dif_neg h, decFrom_snoc, ih (u / 10) (by omega), Option.bind_some, digit_val (Nat.mod_lt _ (by decide)), Option.map_some]
      congr 1; omega
theorem dec_digits : ∀ (u : Nat), ∀ b ∈ Lib.decDigits u, 48 ≤ b.toNat ∧ b.toNat ≤ 57 := fun u => by
  induction u using Nat.strongRecOn with
  | _ u ih =>
    rw [Lib.decDigits]
    by_cases h : u < 10
    · rw [dif_pos h]
      intro b hb
      rw [List.mem_singleton] at hb
      subst hb
      rw [toNat_of _ (by omega)]; omega
    · rw [dif_neg h]
      intro b hb
      rcases List.mem_append.1 hb with hb | hb
      · exact ih (u / 10) (by omega) b hb
      · rw [List.mem_singleton] at hb
        subst hb
        rw [toNat_of _ (by omega)]; omega
theorem dec_len : ∀ (k u : Nat), u < 10 ^ (k + 1) → (Lib.decDigits u).length ≤ k + 1
  | 0, u, h => by rw [Lib.decDigits, dif_pos (by simpa using h)]; exact Nat.le_refl _
  | k + 1, u, h => by
    rw [Lib.decDigits]
    by_cases h1 : u < 10
    · rw [dif_pos h1]; simp
    · rw [dif_neg h1, List.length_append]
      have := dec_len k (u / 10) (by rw [Nat.pow_succ] at h; omega)
      simp only [List.length_cons, List.length_nil]; omega
theorem dec_ne (u : Nat) : Lib.decDigits u ≠ [] := by
  rw [Lib.decDigits]
  by_cases h : u < 10
  · rw [dif_pos h]; simp
  · rw [dif_neg h]; simp
/-- A number's digits. -/
def dec3 (n : Nat) : List UInt8 := Lib.decDigits n
theorem itoa_dec (n : Nat) : Lib.itoa (n : Int) = dec3 n := by
  unfold Lib.itoa
  rw [if_neg (by omega), Int.toNat_natCast]; rfl
theorem dec_facts (n : Nat) (hn : n < 65001) : Lib.atoi (dec3 n) = some (n : Int) ∧ (dec3 n).length ≤ 5 ∧ (0 : UInt8) ∉ dec3 n ∧ (32 : UInt8) ∉ dec3 n := by
  have hd := dec_digits n
  refine ⟨?_, dec_len 4 n (by omega), fun h => ?_, fun h => ?_⟩
  · have hf := dec_from n
    unfold dec3
    cases hl : Lib.decDigits n with
    | nil => exact absurd hl (dec_ne n)
    | cons b r =>
      rw [hl] at hd hf
      have hb := hd b List.mem_cons_self
      have n45 : (b == 45) = false := by
        rw [beq_eq_false_iff_ne]; rintro rfl; exact absurd hb.1 (by decide)
      have n43 : (b == 43) = false := by
        rw [beq_eq_false_iff_ne]; rintro rfl; exact absurd hb.1 (by decide)
      unfold Lib.atoi
      simp only [n45, n43]
      unfold Lib.decNat
      simp [hf]
  · exact absurd (hd 0 h).1 (by decide)
  · exact absurd (hd 32 h).1 (by decide)
theorem itoa_spec (n : Nat) (hn : n ≤ 65000) {w : World} (ht : Tab10 w) : Calls Tryz.prog F_strconv_Itoa #[.int .i64 (n : Int)] w fun e w' => e = .returned (.string ⟨(Lib.itoa (n : Int)).toArray⟩) ∧ Fr (fun _ => False) w w' :=
  (Any.strconv_Itoa laysM171 (n : Int) (by omega) (by omega) w ht).mono fun e w' ⟨h, k, os, hw⟩ => ⟨h, by rw [hw]; exact ogrow_fr _ _ _⟩
theorem bytesWorld_fr (w : World) (e : TypeId) (s : ByteArray) : Fr (fun _ => False) w (Lib.bytesWorld w e s) :=
  ⟨rfl, rfl, rfl, by rw [Lib.bytesWorld_size]; omega, fun k hk _ => Lib.bytesWorld_at_old _ _ _ _ hk⟩
end Go.Proofs.YtaaimcbicpgjoaaGreatDoor

/- Objects: Check, Encode, Id, and Decode of what was encoded. Conditions: at most 65000 bytes. -/
set_option linter.unusedVariables false
namespace Go.Proofs.YtaaimcbicpgjoaaGreatDoor
open Go Vc HexM ShaM Go.Proofs

theorem boxO_run (w : World) (k : Int) (d : ByteArray) : (storeVar T_api_Object ⟨w.heap.size, 0, none⟩ (.agg #[.int .i64 k, .string d])).run Tryz.prog (w.alloc (.cells #[.int .i64 0, .string ⟨#[]⟩] T_api_Object)) = .ok () (w.alloc (.cells #[.int .i64 k, .string d] T_api_Object)) :=
  run_storeVar_new w T_api_Object _ _ (by kernel_rfl) rfl (by simp [Value.oneCell'])
theorem boxO_store {w : World} {g : Nat} {cs : Array Value} (h : w.heap[g]? = some (.cells cs T_api_Object (0, 0))) (hc : cs.size = 2) (k : Int) (d : ByteArray) :
    ∃ w', (storeVar T_api_Object ⟨g, 0, none⟩ (.agg #[.int .i64 k, .string d])).run Tryz.prog w = .ok () w' ∧ w'.heap[g]? = some (.cells #[.int .i64 k, .string d] T_api_Object (0, 0)) ∧ Fr (· = g) w w' :=
  ⟨_, run_storeVar_row (P := Tryz.prog) w g T_api_Object T_api_Object _ #[.int .i64 k, .string d] h (by kernel_rfl) (by rw [hc]; rfl) (by simp [Value.oneCell']), setRow_heap w g _ #[.int .i64 k, .string d] T_api_Object (0, 0) h, setRow_fr (· = g) w g _ rfl⟩
theorem boxO_load {w : World} {g : Nat} {k : Int} {d : ByteArray} (h : w.heap[g]? = some (.cells #[.int .i64 k, .string d] T_api_Object (0, 0))) : (loadVar T_api_Object ⟨g, 0, none⟩).run Tryz.prog w = .ok (.agg #[.int .i64 k, .string d]) w :=
  load_agg (vs := [.int .i64 k, .string d]) (agg_of (by kernel_rfl)) (by kernel_rfl) fun k v hv => by rw [add_lit, Nat.zero_add, cell_blk h]; simpa using hv
theorem ocheck_spec (k : Int) (d : ByteArray) (hd : d.size ≤ 65000) (w : World) : Calls Tryz.prog F_object_Check #[.agg #[.int .i64 k, .string d]] w fun e w' => e = .returned (.int .i64 (if kname k = ⟨#[]⟩ then 10 else 0)) ∧ Fr (fun _ => False) w w' := by
  refine vc_object_Check_ok (R := fun v w' => v = .int .i64 (if kname k = ⟨#[]⟩ then 10 else 0) ∧ Fr (fun _ => False) w w') ?_ (fun v w' h => ⟨by rw [h.1], h.2⟩)
  intro w1 h1
  have hf1 : Fr (fun _ => False) w w1 := by rw [h1]; exact .alloc _ _ _
  have hb : w1.heap[w.heap.size]? = some (.cells #[.int .i64 k, .string d] T_api_Object (0, 0)) := by rw [h1]; exact alloc_new _ _
  clear h1
  refine ⟨k, by rw [cell_blk hb]; rfl, (oname_spec k w1).mono ?_⟩
  rintro e w4 ⟨rfl, hw⟩
  replace hw := hw.symm
  subst hw
  refine ⟨_, rfl, fun h => ?_, fun h => ⟨d, by rw [cell_blk hb]; rfl, fun h2 => by have := of_decide_eq_true h2; omega, fun _ => ?_⟩⟩
  · rw [bs_eq] at h
    rw [if_pos (of_decide_eq_true h)]
    exact ⟨rfl, hf1⟩
  · rw [bs_eq] at h
    rw [if_neg (of_decide_eq_false h)]
    exact ⟨rfl, hf1⟩
def encS (k : Int) (d : ByteArray) : ByteArray := kname k ++ ⟨#[32]⟩ ++ ⟨(dec3 d.size).toArray⟩ ++ ⟨#[0]⟩ ++ d
theorem encS_size {k : Int} (hk : isKind k) {d : ByteArray} (hd : d.size ≤ 65000) : (encS k d).size ≤ 65013 := by
  have h1 := (kname_ok hk).2.1
  have h2 := (dec_facts d.size (by omega)).2.1
  have h3 : (⟨(dec3 d.size).toArray⟩ : ByteArray).size ≤ 5 := by rw [bs_mksize]; exact h2
  unfold encS
  simp only [ByteArray.size_append]
  have h4 : (⟨#[32]⟩ : ByteArray).size = 1 := rfl
  have h5 : (⟨#[0]⟩ : ByteArray).size = 1 := rfl
  omega
theorem oencode_spec (k : Int) (d : ByteArray) (hd : d.size ≤ 65000) {w : World} (ht : Tab10 w) : Calls Tryz.prog F_object_Encode #[.agg #[.int .i64 k, .string d]] w fun e w' => ((isKind k ∧ e = .returned (.tuple #[.string (encS k d), .int .i64 0])) ∨ (¬ isKind k ∧ e = .returned (.tuple #[.string ⟨#[]⟩, .int .i64 10]))) ∧ Fr (fun _ => False) w w' := by
  refine vc_object_Encode_ok (R := fun v w' => ((isKind k ∧ v = .tuple #[.string (encS k d), .int .i64 0]) ∨ (¬ isKind k ∧ v = .tuple #[.string ⟨#[]⟩, .int .i64 10])) ∧ Fr (fun _ => False) w w') ?_ (fun v w' h => ⟨h.1.imp (fun h => ⟨h.1, by rw [h.2]⟩) (fun h => ⟨h.1, by rw [h.2]⟩), h.2⟩)
  intro w1 h1
  have hf1 : Fr (fun _ => False) w w1 := by rw [h1]; exact .alloc _ _ _
  have hb : w1.heap[w.heap.size]? = some (.cells #[.int .i64 k, .string d] T_api_Object (0, 0)) := by rw [h1]; exact alloc_new _ _
  clear h1
  refine ⟨k, d, boxO_load hb, (ocheck_spec k d (by omega) w1).mono ?_⟩
  rintro e w5 ⟨rfl, hf5⟩
  have hf5' := hf1.trans' hf5
  refine ⟨_, rfl, fun h => ?_, fun h w7 d7 => ?_⟩
  · by_cases hk : isKind k
    · rw [if_neg (kname_ok hk).1] at h; cases h
    · rw [if_pos (kname_no hk)]
      exact ⟨.inr ⟨hk, rfl⟩, hf5'⟩
  · have hk : isKind k := by
      by_cases hk : isKind k
      · exact hk
      · rw [if_pos (kname_no hk)] at h; cases h
    have hf7 := hf5'.trans' (.drew _ d7)
    have hb7 := (hf5.trans' (.drew _ d7)).keep hb (by simp)
    refine ⟨fun w' => Fr (fun _ => False) w7 w', .refl _ _, k, fun w10 h10 => by rw [cell_blk (h10.keep hb7 (by simp))]; rfl, d, fun w12 h12 => by rw [cell_blk (h12.keep hb7 (by simp))]; rfl, d, fun w14 h14 => by rw [cell_blk (h14.keep hb7 (by simp))]; rfl, (oname_spec k w7).mono ?_⟩
    rintro e w16 ⟨rfl, hw⟩
    replace hw := hw.symm
    subst hw
    obtain ⟨k1, k2, _, _⟩ := kname_ok hk
    have h32 : (ByteArray.mk (Array.mk [(32 : UInt8)])).size = 1 := rfl
    have h0 : (ByteArray.mk (Array.mk [(0 : UInt8)])).size = 1 := rfl
    refine ⟨_, rfl, .refl _ _, by omega, (itoa_spec d.size (by omega) (ht.keep hf7)).mono ?_⟩
    rintro e w19 ⟨rfl, hf19⟩
    rw [itoa_dec]
    have h3 : (⟨(dec3 d.size).toArray⟩ : ByteArray).size ≤ 5 := by rw [bs_mksize]; exact (dec_facts d.size (by omega)).2.1
    exact ⟨_, rfl, hf19, by simp only [ByteArray.size_append]; omega, by simp only [ByteArray.size_append]; omega, by simp only [ByteArray.size_append]; omega, .inl ⟨hk, rfl⟩, hf7.trans' hf19⟩
def idS (k : Int) (d : ByteArray) : ByteArray := ⟨(hexL (digest block1 start1 (encS k d).data.toList)).toArray⟩
theorem oid_spec (k : Int) (d : ByteArray) (hd : d.size ≤ 65000) {w : World} (ht : Tab10 w) : Calls Tryz.prog F_object_Id #[.agg #[.int .i64 k, .string d]] w fun e w' => ((isKind k ∧ e = .returned (.tuple #[.string (idS k d), .int .i64 0])) ∨ (¬ isKind k ∧ e = .returned (.tuple #[.string ⟨#[]⟩, .int .i64 10]))) ∧ Fr (fun _ => False) w w' := by
  refine vc_object_Id_ok (R := fun v w' => ((isKind k ∧ v = .tuple #[.string (idS k d), .int .i64 0]) ∨ (¬ isKind k ∧ v = .tuple #[.string ⟨#[]⟩, .int .i64 10])) ∧ Fr (fun _ => False) w w') ?_ (fun v w' h => ⟨h.1.imp (fun h => ⟨h.1, by rw [h.2]⟩) (fun h => ⟨h.1, by rw [h.2]⟩), h.2⟩)
  intro w1 h1
  have hf1 : Fr (fun _ => False) w w1 := by rw [h1]; exact .alloc _ _ _
  have hb : w1.heap[w.heap.size]? = some (.cells #[.int .i64 k, .string d] T_api_Object (0, 0)) := by rw [h1]; exact alloc_new _ _
  clear h1
  refine ⟨k, d, boxO_load hb, (oencode_spec k d hd (ht.keep hf1)).mono ?_⟩
  rintro e w5 ⟨⟨hk, rfl⟩ | ⟨hk, rfl⟩, hf5⟩
  · refine ⟨_, _, rfl, fun h => (by cases h), fun _ => ?_⟩
    have hes := encS_size hk hd
    refine (sum1_spec (encS k d) (by omega) w5).mono ?_
    rintro e w9 ⟨rfl, hf9⟩
    have hdl : (digest block1 start1 (encS k d).data.toList).length = 20 := dig1_len _
    refine ⟨_, rfl, (hex_spec _ (by rw [bs_mksize, hdl]; decide) w9).mono ?_⟩
    rintro e w12 ⟨rfl, hf12⟩
    rw [bs_mk]
    exact ⟨_, rfl, .inl ⟨hk, rfl⟩, (hf1.trans' hf5).trans' (hf9.trans' hf12)⟩
  · exact ⟨_, _, rfl, fun _ => ⟨.inr ⟨hk, rfl⟩, hf1.trans' hf5⟩, fun h => by cases h⟩
end Go.Proofs.YtaaimcbicpgjoaaGreatDoor

/- Formulas of 3 Go functions of this seat (written by a program of the author's, vcgen.py), and that each is enough for the call. No condition. -/
set_option linter.unusedVariables false
namespace Go.Proofs.YtaaimcbicpgjoaaGreatDoor
open Go Vc Go.Proofs
set_option maxRecDepth 100000
/-- sums.digit -/
def vc_sums_digit (x0 : Int) (w : World) (R : Value → World → Prop) : Prop :=
 ∃ I1 : Bool → World → Prop, ((((decide (x0 ≥ 48) = true →
 I1 (decide (x0 ≤ 57)) w)) ∧
 (decide (x0 ≥ 48) = false →
 I1 false w)) ∧
 ∀ b2 : Bool,
 ∀ w3 : World,
 (I1 b2 w3 →
 (((b2 = true →
 R (Value.int IntKind.i64 (IntKind.wrap IntKind.i64 (IntKind.wrap IntKind.u8 (x0 - 48)))) w3)) ∧
 (b2 = false →
 (((decide (x0 ≥ 97) = true →
 (((decide (x0 ≤ 102) = true →
 R (Value.int IntKind.i64 (IntKind.wrap IntKind.i64 (IntKind.wrap IntKind.i64 (IntKind.wrap IntKind.u8 (x0 - 97)) + 10))) w3)) ∧
 (decide (x0 ≤ 102) = false →
 R (Value.int IntKind.i64 (-1)) w3)))) ∧
 (decide (x0 ≥ 97) = false →
 R (Value.int IntKind.i64 (-1)) w3))))))
theorem vc_sums_digit_ok {x0 : Int} {w : World} {R : Value → World → Prop} {R' : Ending → World → Prop} (h : vc_sums_digit x0 w R) (hR : ∀ v w', R v w' → R' (.returned v) w') :
    Calls Tryz.prog 50 #[.int .u8 x0] w R' :=
  calls_of_body (vs := [(.int .u8 x0, false)]) (ty := ty) (ann := ⟨[(2, [(3, .bool)])], [], [], []⟩) (c := Tryz.f50.body.getD .skip) (by kernel_rfl) Tryz.func50 (by kernel_rfl) (by kernel_rfl) (Eq.mp (by kernel_rfl) h) hR
/-- sums.Unhex -/
def vc_sums_Unhex (x0 : ByteArray) (w : World) (R : Value → World → Prop) : Prop :=
 ∃ I1 : Sl → Int → World → Prop, ∃ I2 : Sl → Int → World → Nat, (I1 (Sl.mk none 0 0) 0 w ∧
 ∀ l3 : Sl,
 ∀ n4 : Int,
 ∀ w5 : World,
 (I1 l3 n4 w5 →
 (((decide (IntKind.wrap IntKind.i64 (n4 + 1) < (↑(ByteArray.size x0) : Int)) = true →
 ∀ w6 : World,
 (Drew w5 w6 →
 ∃ I7 : World → Prop, (I7 w6 ∧
 ((0 ≤ n4 ∧
 n4 < (↑(ByteArray.size x0) : Int)) ∧
 ((0 ≤ IntKind.wrap IntKind.i64 (n4 + 1) ∧
 IntKind.wrap IntKind.i64 (n4 + 1) < (↑(ByteArray.size x0) : Int)) ∧
 Calls Tryz.prog (50 : Nat) (Array.mk [Value.int IntKind.u8 (byteAt x0 n4)]) (w6) (fun e8 w9 =>
 ∃ n10 : Int, (e8 = Ending.returned (Value.int IntKind.i64 n10) ∧
 (I7 w9 ∧
 Calls Tryz.prog (50 : Nat) (Array.mk [Value.int IntKind.u8 (byteAt x0 (IntKind.wrap IntKind.i64 (n4 + 1)))]) (w9) (fun e11 w12 =>
 ∃ n13 : Int, (e11 = Ending.returned (Value.int IntKind.i64 n13) ∧
 (I7 w12 ∧
 (((decide (n10 < 0) = true →
 R (Value.tuple (Array.mk [Value.string (ByteArray.mk (Array.mk [])), Value.bool false])) w12)) ∧
 (decide (n10 < 0) = false →
 (((decide (n13 < 0) = true →
 R (Value.tuple (Array.mk [Value.string (ByteArray.mk (Array.mk [])), Value.bool false])) w12)) ∧
 (decide (n13 < 0) = false →
 ((0 : Int) ≤ (4 : Int) ∧
 ∀ w14 : World,
 (w14 = World.alloc w12 (Obj.cells (Array.mk [Value.int IntKind.u8 (IntKind.wrap IntKind.u8 (IntKind.wrap IntKind.i64 (↑(BitVec.toNat (BitVec.ofInt 64 (IntKind.wrap IntKind.i64 (n10 * 2 ^ min (Int.toNat 4) 64)) ||| BitVec.ofInt 64 n13)) : Int)))]) 5) →
 ∃ w15 : World, ∃ l16 : Sl, (Sem.run Tryz.prog (Builtin.append_ (Array.mk [60, 60]) 60 (Array.mk [Value.slice l3.1 l3.2 l3.3, Value.slice (some (Addr.mk (Array.size (World.heap w12)) 0 none)) 1 1])) w14 = Result.ok (Value.slice l16.1 l16.2 l16.3) w15 ∧
 (I1 (Sl.mk l16.1 l16.2 l16.3) (IntKind.wrap IntKind.i64 (n4 + 2)) w15 ∧
 I2 (Sl.mk l16.1 l16.2 l16.3) (IntKind.wrap IntKind.i64 (n4 + 2)) w15 < I2 l3 n4 w5)))))))))))))))))))) ∧
 (decide (IntKind.wrap IntKind.i64 (n4 + 1) < (↑(ByteArray.size x0) : Int)) = false →
 ((2 : Int) ≠ (0 : Int) ∧
 ((((Int.tmod (↑(ByteArray.size x0) : Int) 2 != 0) = true →
 R (Value.tuple (Array.mk [Value.string (ByteArray.mk (Array.mk [])), Value.bool false])) w5)) ∧
 ((Int.tmod (↑(ByteArray.size x0) : Int) 2 != 0) = false →
 ∃ w17 : World, ∃ s18 : ByteArray, (Sem.run Tryz.prog (convert 60 9 (Value.slice l3.1 l3.2 l3.3)) w5 = Result.ok (Value.string s18) w17 ∧
 R (Value.tuple (Array.mk [Value.string s18, Value.bool true])) w17))))))))
theorem vc_sums_Unhex_ok {x0 : ByteArray} {w : World} {R : Value → World → Prop} {R' : Ending → World → Prop} (h : vc_sums_Unhex x0 w R) (hR : ∀ v w', R v w' → R' (.returned v) w') :
    Calls Tryz.prog 22 #[.string x0] w R' :=
  calls_of_body (vs := [(.string x0, false)]) (ty := ty) (ann := ⟨[], [(3, [(4, .slice), (5, .int .i64)])], [(5, .held [(0, true), (1, true), (2, true), (4, true), (5, true), (6, true), (7, true), (3, false), (8, false), (9, true), (10, true)])], []⟩) (c := Tryz.f22.body.getD .skip) (by kernel_rfl) Tryz.func22 (by kernel_rfl) (by kernel_rfl) (Eq.mp (by kernel_rfl) h) hR
/-- sums.Id -/
def vc_sums_Id (x0 : ByteArray) (w : World) (R : Value → World → Prop) : Prop :=
 Calls Tryz.prog (22 : Nat) (Array.mk [Value.string x0]) (w) (fun e1 w2 =>
 ∃ s3 : ByteArray, ∃ b4 : Bool, (e1 = Ending.returned (Value.tuple (Array.mk [Value.string s3, Value.bool b4])) ∧
 (((b4 = true →
 R (Value.bool ((↑(ByteArray.size x0) : Int) == 40)) w2)) ∧
 (b4 = false →
 R (Value.bool false) w2))))
theorem vc_sums_Id_ok {x0 : ByteArray} {w : World} {R : Value → World → Prop} {R' : Ending → World → Prop} (h : vc_sums_Id x0 w R) (hR : ∀ v w', R v w' → R' (.returned v) w') :
    Calls Tryz.prog 32 #[.string x0] w R' :=
  calls_of_body (vs := [(.string x0, false)]) (ty := ty) (ann := ⟨[], [], [], []⟩) (c := Tryz.f32.body.getD .skip) (by kernel_rfl) Tryz.func32 (by kernel_rfl) (by kernel_rfl) (Eq.mp (by kernel_rfl) h) hR
end Go.Proofs.YtaaimcbicpgjoaaGreatDoor
