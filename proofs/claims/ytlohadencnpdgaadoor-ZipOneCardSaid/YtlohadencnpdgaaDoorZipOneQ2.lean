/- Texts of this seat in one: made by a program of ours. -/
import Derived.Test.YtlohadencnpdgaaDoorZipOneQ0
import Derived.Test.YtlohadencnpdgaaDoorZipOneQ1
import Derived.Test.YtlohadencnpdgaaDoorProg
/- Functions that may panic, and functions that defer one closure and may panic behind it: their formulas, and that they are enough. No condition: for all programs. -/
set_option linter.unusedVariables false
namespace Vc
open Go
variable {D : List Deferred}

/-- What slots outside 'wr' hold. -/
structure SubW (D : List Deferred) (N : Nat) (wr : List Nat) (e : Env) (a : Act) : Prop where
  size : a.tmps.size = N
  defers : a.defers = D
  at_ : ∀ t v, memN t wr = false → get e t = some v → a.tmps[t]? = some v.1
section
variable {N : Nat} {wr wr' : List Nat} {e e' : Env} {a : Act}
theorem SubW.of (hx : Ext wr e e') (hs : Sub D N e' a) : SubW D N wr e a := ⟨hs.size, hs.defers, fun t v hm hg => by
  obtain ⟨b, hb⟩ := hx t v hm hg
  exact hs.at_ t (v.1, b) hb⟩
theorem SubW.mono (h : SubW D N wr e a) (hm : ∀ t, memN t wr' = false → memN t wr = false) : SubW D N wr' e a := ⟨h.size, h.defers, fun t v ht hg => h.at_ t v (hm t ht) hg⟩
theorem SubW.trans (hx : Ext wr e e') (h : SubW D N wr' e' a) : SubW D N (wr ++ wr') e a := ⟨h.size, h.defers, fun t v ht hg => by
  obtain ⟨h1, h2⟩ := memN_app ht
  obtain ⟨b, hb⟩ := hx t v h1 hg
  exact h.at_ t (v.1, b) h2 hb⟩
theorem SubW.trans' (hx : Ext wr e e') (h : SubW D N wr e' a) : SubW D N wr e a := ⟨h.size, h.defers, fun t v ht hg => by
  obtain ⟨b, hb⟩ := hx t v ht hg
  exact h.at_ t (v.1, b) ht hb⟩
theorem SubW.unput {d : Option Tmp} {v : Value} (hd : ∀ t, d = some t → memN t wr = true) (h : SubW D N wr e (a.put d v)) : SubW D N wr e a := by
  cases d with
  | none => exact h
  | some d =>
    refine ⟨by simpa [Act.put] using h.size, by simpa [Act.put] using h.defers, fun t u ht hg => ?_⟩
    have := h.at_ t u ht hg
    have hne : d ≠ t := by rintro rfl; rw [hd d rfl] at ht; cases ht
    simp only [Act.put] at this
    rwa [Array.getElem?_setIfInBounds_ne hne] at this
theorem SubW.sub (h : SubW D N wr e a) : Sub D N (dropW wr e) a := ⟨h.size, h.defers, fun t v hv => by
  obtain ⟨h1, h2⟩ := get_dropW wr e t v hv
  exact h.at_ t v h1 h2⟩
end
/-- A panic is met by X. -/
def panQ (X : List PanicEntry → World → Prop) (D : List Deferred) (N : Nat) (wr : List Nat) (e : Env) (Q : Exit → Act → World → Prop) : Exit → Act → World → Prop
  | .panic c, a, w => X c w ∧ SubW D N wr e a
  | x, a, w => Q x a w

section
variable (P : Program) (ty : Nat → Sh) (N : Nat) (X : List PanicEntry → World → Prop)
/-- An operation where panics are told apart. -/
def wStepX (o : Oper) (e : Env) (w : World) (K : Env → World → Prop) : Prop :=
  match o.op with
  | .call c => match opnds o.op with
    | none => False
    | some l => match hasAll e l with
      | false => False
      | true => match fits N o.dst with
        | false => False
        | true => match c.callee with
          | .builtin .panic => ∃ v, (execOp (vl e) o).run P w = .halt (.panic v) w ∧ X [{ v, recovered := false }] w
          | .builtin _ => wStep P ty N .full o e w K
          | _ => match pureRun P (execOp (vl e) o) with
            | some (.enter f args) => Calls P f args w fun e' w'' => (exSh (ty o.type) fun v => e' = .returned v ∧ K (put e o.dst (v, false)) w'') ∨ ∃ ch, e' = .panicked ch ∧ X ch w''
            | _ => False
  | .panic x => match has e x with
    | false => False
    | true => match vl e x with
      | .iface t v => X [{ v := .iface t v, recovered := false }] w
      | _ => False
  | _ => wStep P ty N .full o e w K
/-- Under its guard. -/
def wGuardX (ops : List Oper) (o : Oper) (e : Env) (w : World) (K : Env → World → Prop) : Prop :=
  match o.guard with
  | none => wStepX P ty N X o e w K
  | some _ => wGuard P ty N .full ops o e w K
def wOpsX (ops : List Oper) : List Oper → Env → World → (Env → World → Prop) → Prop
  | [], e, w, K => K e w
  | o :: r, e, w, K => wGuardX P ty N X ops o e w (fun e' w' => wOpsX ops r e' w' K)
def wHeldX (ops : Array Oper) (S : World → Prop) : List (Nat × Bool) → Array Bool → Env → World → (Env → World → Prop) → Prop
  | [], listed, e, w, K => match Region.ready .any ops listed with
    | [] => K e w
    | _ => False
  | (i, true) :: r, listed, e, w, K => match ops[i]? with
    | none => False
    | some o => match Region.free .any ops listed i with
      | false => False
      | true => match (Region.ready .any ops listed).contains i with
        | false => False
        | true => wGuard P ty N (.held S) ops.toList o e w fun e' w' => wHeldX ops S r (listed.setIfInBounds i true) e' w' K
  | (i, false) :: r, listed, e, w, K => match ops[i]? with
    | none => False
    | some o => match Region.ready .any ops listed with
      | [j] => match Nat.beq j i with
        | false => False
        | true => match lastOf r (lastB ops i) with
          | true => wGuardX P ty N X ops.toList o e w fun e' w' => wHeldX ops S r (listed.setIfInBounds i true) e' w' K
          | false => wGuardX P ty N X ops.toList o e w fun e' w' => S w' ∧ wHeldX ops S r (listed.setIfInBounds i true) e' w' K
      | _ => False
end
section
variable {P : Program} {ty : Nat → Sh} {N : Nat} {X : List PanicEntry → World → Prop}
theorem wStepX_sound {o : Oper} {e : Env} {a : Act} {w : World} {K : Env → World → Prop} {next : Act → World → Prop} {Q : Exit → Act → World → Prop}
    (h : wStepX P ty N X o e w K) (hs : Sub D N e a) (hX : ∀ ch w', X ch w' → Q (.panic ch) a w') (hk : ∀ v w' a', K (put e o.dst v) w' → Sub D N (put e o.dst v) a' → next a' w') : o.wp P a w next Q := by
  unfold wStepX at h
  split at h
  · rename_i c ho
    split at h
    · exact h.elim
    rename_i l hl
    split at h
    · exact h.elim
    rename_i hh
    split at h
    · exact h.elim
    rename_i hf
    split at h
    · obtain ⟨v, hr, hx⟩ := h
      unfold Oper.wp
      rw [hs.exec hl hh, hr, Oper.upon_panic]
      exact hX _ _ hx
    · exact wStep_sound h hs hk
    · split at h
      · rename_i f args hr
        unfold Oper.wp
        rw [hs.exec hl hh, pureRun_spec hr w, Oper.upon_enter]
        refine h.mono fun e' w'' hh => ?_
        rcases hh with hh | ⟨ch, rfl, hx⟩
        · obtain ⟨v, rfl, hk'⟩ := exSh_out _ _ hh
          exact hk _ _ _ hk' (hs.put (v := (v, false)) hf)
        · exact hX _ _ hx
      · exact h.elim
  · rename_i x ho
    split at h
    · exact h.elim
    rename_i hh
    have hev := hs.vl hh
    split at h
    · rename_i t v hv
      have hr : (execOp a.eval o).run P w = .halt (.panic (.iface t v)) w := by
        rw [hv] at hev
        simp only [execOp, ho, hev]
        rfl
      unfold Oper.wp
      rw [hr, Oper.upon_panic]
      exact hX _ _ h
    · exact h.elim
  · exact wStep_sound h hs hk
/-- The guard, opened. -/
theorem wGuardX_open {ops : List Oper} {o : Oper} {e : Env} {a : Act} {w : World} {K : Env → World → Prop} {R : Prop} {next : Act → World → Prop} {Q : Exit → Act → World → Prop}
    (h : wGuardX P ty N X ops o e w K) (hs : Sub D N e a)
    (hX : ∀ ch w', X ch w' → Q (.panic ch) a w') (hk : ∀ v w' a' e', Ext [] e e' → K (put e' o.dst v) w' → Sub D N (put e' o.dst v) a' → next a' w')
    (yes : Region.wanted o (yielded ops.toArray a.tmps) = true → o.wp P a w next Q → R)
    (no : ∀ e', Ext [] e e' → Sub D N e' a → fits N o.dst = true → Region.wanted o (yielded ops.toArray a.tmps) = false → K (put e' o.dst (undef, false)) w → R) : R := by
  unfold wGuardX at h
  split at h
  · rename_i hg
    exact yes (by simp [Region.wanted, hg]) (wStepX_sound h hs hX fun v w' a' h1 h2 => hk v w' a' e (.refl _ _) h1 h2)
  · exact wGuard_open h hs (fun e1 he hs1 hw h => yes hw (wStep_sound h hs1 fun v w' a' h1 h2 => hk v w' a' e1 he h1 h2)) no
theorem wOpsX_sound {ops : List Oper} {Q : Exit → Act → World → Prop} : ∀ (l : List Oper) (e : Env) (a : Act) (w : World) (K : Env → World → Prop),
    wOpsX P ty N X ops l e w K → Sub D N e a → (∀ ch e' w' a', X ch w' → Ext (dsts l) e e' → Sub D N e' a' → Q (.panic ch) a' w') → (∀ e' w' a', K e' w' → Ext (dsts l) e e' → Sub D N e' a' → Q .normal a' w') → wpList P ops.toArray Q l a w
  | [], e, a, w, K, h, hs, hX, hk => hk _ _ _ h (.refl _ _) hs
  | o :: r, e, a, w, K, h, hs, hX, hk => by
    rw [wOpsX] at h
    refine wGuardX_open (Q := fun x a' w' => Q x a' w') (next := fun a' w' => wpList P ops.toArray Q r a' w') h hs (fun ch w' hx => hX ch e w' a hx (.refl _ _) hs) (fun v w' a' e1 he hh hs' => wOpsX_sound r _ a' w' K hh hs' (fun ch e' w' a' h1 h2 h3 => hX ch e' w' a' h1 (ext_step he h2) h3) fun e' w' a' h1 h2 h3 => hk _ _ _ h1 (ext_step he h2) h3) (fun hw hh => ?_) (fun e1 he hs1 hf hw h => ?_)
    · unfold wpList; rw [if_pos hw]
      exact .inl hh
    · unfold wpList; rw [if_neg (by simp [hw])]
      exact wOpsX_sound r _ _ w K h (hs1.put (v := (undef, false)) hf) (fun ch e' w' a' h1 h2 h3 => hX ch e' w' a' h1 (ext_step he h2) h3) fun e' w' a' h1 h2 h3 => hk _ _ _ h1 (ext_step he h2) h3
theorem wHeldX_sound {ops : Array Oper} {Q : Exit → Act → World → Prop} {S : World → Prop} {e0 : Env} {wr : List Nat} (hsel : Region.noSelect ops = true) : ∀ (l : List (Nat × Bool)) (listed : Array Bool) (e : Env) (a : Act) (w : World) (K : Env → World → Prop),
    (∀ i b, (i, b) ∈ l → ∀ o, ops[i]? = some o → ∀ d, o.dst = some d → memN d wr = true) → (∀ (j : Nat) o, ops[j]? = some o → ∀ d, o.dst = some d → memN d wr = true) →
    wHeldX P ty N X ops S l listed e w K → HeadInv .any ops ops.size listed → Sub D N e a → Ext wr e0 e → (S w ∨ l = []) → (∀ e' w' a', K e' w' → Ext wr e e' → Sub D N e' a' → Q .normal a' w') →
    anyS P ops (panQ X D N wr e0 Q) S l.length listed a w
  | [], listed, e, a, w, K, hwr, hwr2, h, inv, hs, h0, hS, hk => by
    simp only [wHeldX] at h
    split at h
    · rename_i hr; exact ⟨hr, hk _ _ _ h (.refl _ _) hs⟩
    · exact h.elim
  | (i, true) :: r, listed, e, a, w, K, hwr, hwr2, h, inv, hs, h0, hS, hk => by
    have hS : S w := hS.resolve_right (by simp)
    simp only [wHeldX] at h
    split at h
    · exact h.elim
    rename_i o ho
    split at h
    · exact h.elim
    rename_i hf
    split at h
    · exact h.elim
    rename_i hr
    have hr' : i ∈ Region.ready .any ops listed := by simpa using hr
    have hin : i < ops.size := (Array.getElem?_eq_some_iff.1 ho).1
    have hd : ∀ t, memN t wr = false → memN t o.dst.toList = false := fun t ht => by
      cases hdst : o.dst with
      | none => rfl
      | some d =>
        have := hwr i true (by simp) o ho d hdst
        have hne : d ≠ t := by rintro rfl; rw [this] at ht; cases ht
        simp only [Option.toList, memN]
        cases hb : Nat.beq d t with
        | true => exact absurd (Nat.eq_of_beq_eq_true hb) hne
        | false => rfl
    have hops : ops = ops.toList.toArray := by simp
    have hQ : ∀ (v : Value) (c : List PanicEntry) (a : Act) (w : World), panQ X D N wr e0 Q (.panic c) (a.put o.dst v) w → panQ X D N wr e0 Q (.panic c) a w := fun v c a w hh => ⟨hh.1, hh.2.unput fun t ht => hwr2 i o ho t ht⟩
    refine wGuard_open h hs (fun e1 he hs hw h => ?_) (fun e1 he hs hfit hw h => ?_)
    · obtain ⟨v, b, hK, hfit, hrun⟩ := wStep_held h hs
      refine anyS_first ho (Region.noSelect_spec hsel) (hQ v) _ _ _ _ inv (Region.free_spec ho hf) hr' (.inl ⟨by rw [hops]; exact hw, hrun⟩) hS ?_
      have hx := (he.mono fun _ _ => rfl).trans' ((Ext.put e1 o.dst (v, b)).mono hd)
      exact wHeldX_sound hsel r _ _ _ _ K (fun i b hm => hwr i b (by simp [hm])) hwr2 hK (inv.set hr' hin) (hs.put (v := (v, b)) hfit) (h0.trans' hx) (.inl hS) fun e' w' a' h1 h2 h3 => hk _ _ _ h1 (hx.trans' h2) h3
    · refine anyS_first ho (Region.noSelect_spec hsel) (hQ undef) _ _ _ _ inv (Region.free_spec ho hf) hr' (.inr ⟨by rw [hops]; exact hw, rfl⟩) hS ?_
      have hx := (he.mono fun _ _ => rfl).trans' ((Ext.put e1 o.dst (undef, false)).mono hd)
      exact wHeldX_sound hsel r _ _ _ _ K (fun i b hm => hwr i b (by simp [hm])) hwr2 h (inv.set hr' hin) (hs.put (v := (undef, false)) hfit) (h0.trans' hx) (.inl hS) fun e' w' a' h1 h2 h3 => hk _ _ _ h1 (hx.trans' h2) h3
  | (i, false) :: r, listed, e, a, w, K, hwr, hwr2, h, inv, hs, h0, hS, hk => by
    have hS : S w := hS.resolve_right (by simp)
    simp only [wHeldX] at h
    split at h
    · exact h.elim
    rename_i o ho
    split at h
    · rename_i j hr
      split at h
      · exact h.elim
      rename_i hji
      have hji := Nat.eq_of_beq_eq_true hji
      subst hji
      have hr' : j ∈ Region.ready .any ops listed := by rw [hr]; simp
      have hin : j < ops.size := (Array.getElem?_eq_some_iff.1 ho).1
      have hd : ∀ t, memN t wr = false → memN t o.dst.toList = false := fun t ht => by
        cases hdst : o.dst with
        | none => rfl
        | some d =>
          have := hwr j false (by simp) o ho d hdst
          have hne : d ≠ t := by rintro rfl; rw [this] at ht; cases ht
          simp only [Option.toList, memN]
          cases hb : Nat.beq d t with
          | true => exact absurd (Nat.eq_of_beq_eq_true hb) hne
          | false => rfl
      have hops : ops = ops.toList.toArray := by simp
      have key : ∀ (K2 : Env → World → Prop), (∀ e' w', K2 e' w' → (lastB ops j = true ∨ S w') ∧ (S w' ∨ r = []) ∧ wHeldX P ty N X ops S r (listed.setIfInBounds j true) e' w' K) →
          wGuardX P ty N X ops.toList o e w K2 → wpOp P ops (panQ X D N wr e0 Q) j (fun a' w' => (lastB ops j = true ∨ S w') ∧ anyS P ops (panQ X D N wr e0 Q) S r.length (listed.setIfInBounds j true) a' w') a w := fun K2 hK2 h => by
        unfold wpOp
        simp only [ho]
        refine wGuardX_open (Q := panQ X D N wr e0 Q) (next := fun a' w' => (lastB ops j = true ∨ S w') ∧ anyS P ops (panQ X D N wr e0 Q) S r.length (listed.setIfInBounds j true) a' w') h hs (fun ch w' hx => ⟨hx, .of h0 hs⟩) (fun v w' a' e1 he hh hs' => ?_) (fun hw hh => ?_) (fun e1 he hs1 hfit hw h => ?_)
        · obtain ⟨g1, g2, g3⟩ := hK2 _ _ hh
          have hx := (he.mono fun _ _ => rfl).trans' ((Ext.put e1 o.dst v).mono hd)
          exact ⟨g1, wHeldX_sound hsel r _ _ _ _ K (fun i b hm => hwr i b (by simp [hm])) hwr2 g3 (inv.set hr' hin) hs' (h0.trans' hx) g2 fun e' w' a' h1 h2 h3 => hk _ _ _ h1 (hx.trans' h2) h3⟩
        · rw [if_pos (by rw [hops]; exact hw)]
          exact .inl hh
        · rw [if_neg (by rw [hops]; simp [hw])]
          obtain ⟨g1, g2, g3⟩ := hK2 _ _ h
          have hx := (he.mono fun _ _ => rfl).trans' ((Ext.put e1 o.dst (undef, false)).mono hd)
          exact ⟨g1, wHeldX_sound hsel r _ _ _ _ K (fun i b hm => hwr i b (by simp [hm])) hwr2 g3 (inv.set hr' hin) (hs1.put (v := (undef, false)) hfit) (h0.trans' hx) g2 fun e' w' a' h1 h2 h3 => hk _ _ _ h1 (hx.trans' h2) h3⟩
      refine ⟨fun h0 => (by rw [h0] at hr'; cases hr'), fun i hi => ?_⟩
      have hij : i = j := by rw [hr] at hi; simpa using hi
      subst hij
      split at h
      · rename_i hl
        obtain ⟨h1, h2⟩ := lastOf_spec hl
        exact key _ (fun e' w' hh => ⟨.inl h2, .inr h1, hh⟩) h
      · exact key _ (fun e' w' hh => ⟨.inr hh.1, .inl hh.1, hh.2⟩) h
    · exact h.elim
end
section
variable (P : Program) (ty : Nat → Sh) (N : Nat) (ann : Ann) (X : List PanicEntry → World → Prop)
def WX : Code → Env → World → (Ex → Env → World → Prop) → Prop
  | .skip, e, w, K => K .n e w
  | .region id ops draw, e, w, K => match draw with
    | false => wOpsX P ty N X ops.toList ops.toList e w (K .n)
    | true => match look ann.draw id with
      | some (.held l) => match Region.noSelect ops with
        | false => False
        | true => match Nat.beq l.length ops.size with
          | false => False
          | true => ∀ w1, Drew w w1 → ∃ S : World → Prop, S w1 ∧ wHeldX P ty N X ops S l (Array.replicate ops.size false) e w1 (K .n)
      | some (.tail n) => match Region.lexTailB .any ops n with
        | true => ∀ w1, Drew w w1 → wOps P ty N .still ops.toList (ops.toList.take n) e w1 fun e' w' => wOpsX P ty N X ops.toList (ops.toList.drop n) e' w' (K .n)
        | false => False
      | _ => W P ty N ann (.region id ops true) e w K
  | .seq a b, e, w, K => match firstReg b with
    | none => WX a e w fun x e' w' => match x with
      | .n => WX b e' w' K
      | x => K x e' w'
    | some id => match look ann.join id with
      | none => WX a e w fun x e' w' => match x with
        | .n => WX b e' w' K
        | x => K x e' w'
      | some st => match inside st (writes a) with
        | false => False
        | true => ∃ J : Cur Prop st, (WX a e w fun x e' w' => match x with
          | .n => fwd st J e' w'
          | x => K x e' w') ∧ headJ st J fun s pre => ∀ w', pre w' → WX b (app s (dropW (writes a) e)) w' K
  | .cond c a b, e, w, K => match ev e c with
    | some (v, true) => match v with
      | .bool true => WX a e w K
      | .bool false => WX b e w K
      | _ => False
    | some (v, false) => match v with
      | .bool x => (x = true → WX a e w K) ∧ (x = false → WX b e w K)
      | _ => False
    | none => False
  | .block id c, e, w, K => WX c e w fun x e' w' => match x with
    | .x i => match Nat.beq i id with
      | true => K .n e' w'
      | false => K (.x i) e' w'
    | x => K x e' w'
  | .loop c, e, w, K => match firstReg c with
    | none => False
    | some id => match look ann.loop id with
      | none => False
      | some st => match inside st (writes c) with
        | false => False
        | true => ∃ (I : Cur Prop st) (M : Cur Nat st), fwd st I e w ∧ headL st I M fun s pre m => ∀ w', pre w' → WX c (app s (dropW (writes c) e)) w' fun x e' w'' => match x with
        | .n => back st I M e' w'' (m w')
        | x => K x e' w''
  | .exit id, e, w, K => K (.x id) e w
  | .scope c, e, w, K => WX c e w fun x e' w' => match x with
    | .g _ => False
    | x => K x e' w'
  | .label _, e, w, K => K .n e w
  | .goto l, e, w, K => K (.g l) e w
  | .ret, e, w, K => K .r e w
  | _, _, _, _ => False
end
theorem WX_sound {P : Program} {ty : Nat → Sh} {N : Nat} {ann : Ann} {X : List PanicEntry → World → Prop} (hm : P.follows .mixedOrders = true) : ∀ (c : Code) (e : Env) (w : World) (K : Ex → Env → World → Prop), WX P ty N ann X c e w K →
    ∀ (a : Act) (Q : Exit → Act → World → Prop), Sub D N e a → (∀ x e' w' a', K x e' w' → Ext (writes c) e e' → Sub D N e' a' → Q x.exit a' w') → (∀ ch w' a', X ch w' → SubW D N (writes c) e a' → Q (.panic ch) a' w') → c.wp P Q a w
  | .skip, e, w, K, h, a, Q, hs, hk, hX => wp_skip (hk .n _ _ _ h (.refl _ _) hs)
  | .region id ops draw, e, w, K, h, a, Q, hs, hk, hX => by
    simp only [WX] at h
    split at h
    · exact wp_region_list (by
        have := wOpsX_sound (Q := Q) _ _ a _ _ h hs (fun ch e' w' a' h1 h2 h3 => hX ch w' a' h1 (.of h2 h3)) fun e' w' a' h1 h2 h3 => hk .n _ _ _ h1 h2 h3
        simpa using this)
    · split at h
      · rename_i l _
        split at h
        · exact h.elim
        rename_i hsel
        split at h
        · exact h.elim
        rename_i hlen
        have hlen := Nat.eq_of_beq_eq_true hlen
        obtain ⟨S, hS, h⟩ := h w.drew ⟨1, rfl⟩
        refine Code.wp_mono (Q := panQ X D N (writes (Code.region id ops true)) e Q) (fun x a' w' hh => ?_) (wp_region_any hm (any_of_anyS (S := S) _ _ _ _ ?_))
        · cases x
          case panic ch => exact hX ch w' a' hh.1 hh.2
          all_goals exact hh
        have key := wHeldX_sound (Q := Q) (D := D) (e0 := e) (wr := writes (Code.region id ops true)) hsel l _ _ a _ _ (fun i b _ o ho d hd => memN_spec.2 (dsts_mem ho hd)) (fun j o ho d hd => memN_spec.2 (dsts_mem ho hd)) h
          ⟨by simp, fun j oj _ hl => (by rw [getD_replicate_false] at hl; cases hl), fun t _ ht => getD_in (by simpa using ht) (getD_replicate_false _ _)⟩
          hs (.refl _ _) (.inl hS) fun e' w' a' h1 h2 h3 => hk .n _ _ _ h1 h2 h3
        rw [hlen] at key
        exact key
      · rename_i n _
        cases hB : Region.lexTailB .any ops n with
        | false => simp [hB] at h
        | true =>
          simp only [hB] at h
          have hops : ops = ops.toList.toArray := by simp
          rw [hops]
          refine wp_region_still_tail n hm (by rw [← hops]; exact hB) ?_
          have mm : ∀ (e' : Env) (t : Nat), memN t (writes (Code.region id ops true)) = false → memN t (dsts (ops.toList.take n) ++ dsts (ops.toList.drop n)) = false := fun e' t ht => by
            rw [← dsts_app, List.take_append_drop]; exact ht
          have := wOps_still (Q := fun a' => wpList P ops.toList.toArray Q (ops.toList.drop n) a' w.drew) _ _ a _ (h _ ⟨1, rfl⟩) hs fun e' a' h1 h2 h3 =>
            wOpsX_sound (Q := Q) _ _ a' _ _ h1 h3 (fun ch e'' w'' a'' k1 k2 k3 => hX ch w'' a'' k1 (.of ((h2.trans k2).mono (mm e')) k3)) fun e'' w'' a'' k1 k2 k3 => hk .n _ _ _ k1 ((h2.trans k2).mono (mm e')) k3
          exact this
      · exact W_sound hm (.region id ops true) e w K h a Q hs hk
  | .seq x y, e, w, K, h, a, Q, hs, hk, hX => by
    have hX1 : ∀ ch w' a', X ch w' → SubW D N (writes x) e a' → Q (.panic ch) a' w' := fun ch w' a' h1 h2 => hX ch w' a' h1 (h2.mono fun t ht => (memN_app ht).1)
    have plain : (WX P ty N ann X x e w fun x e' w' => match x with
        | .n => WX P ty N ann X y e' w' K
        | x => K x e' w') → (Code.seq x y).wp P Q a w := fun h => by
      refine wp_seq (WX_sound hm x e w _ h a _ hs (fun x e' w' a' h1 h2 h3 => ?_) hX1)
      cases x with
      | n => exact WX_sound hm y e' w' K h1 a' Q h3 (fun x2 e2 w2 a2 k1 k2 k3 => hk _ _ _ _ k1 (h2.trans k2) k3) fun ch w2 a2 k1 k2 => hX ch w2 a2 k1 (.trans h2 k2)
      | x i => exact hk (.x i) _ _ _ h1 (h2.mono fun t ht => (memN_app ht).1) h3
      | g i => exact hk (.g i) _ _ _ h1 (h2.mono fun t ht => (memN_app ht).1) h3
      | r => exact hk .r _ _ _ h1 (h2.mono fun t ht => (memN_app ht).1) h3
    simp only [WX] at h
    split at h
    · exact plain h
    · split at h
      · exact plain h
      · rename_i st _
        split at h
        · exact h.elim
        rename_i hin
        obtain ⟨J, h1, h2⟩ := h
        refine wp_seq (WX_sound hm x e w _ h1 a _ hs (fun x e' w' a' g1 g2 g3 => ?_) hX1)
        cases x with
        | n =>
          obtain ⟨s, pre, ⟨hf, hsl⟩, hp, hh⟩ := fwd_head g1 (headJ_slots h2)
          have hx := ext_app (e := e) hin hsl
          exact WX_sound hm y _ w' K (hf w' hp) a' Q (sub_app g2 g3 hh) (fun x2 e2 w2 a2 k1 k2 k3 => hk _ _ _ _ k1 (hx.trans k2) k3) fun ch w2 a2 k1 k2 => hX ch w2 a2 k1 (.trans hx k2)
        | x i => exact hk (.x i) _ _ _ g1 (g2.mono fun t ht => (memN_app ht).1) g3
        | g i => exact hk (.g i) _ _ _ g1 (g2.mono fun t ht => (memN_app ht).1) g3
        | r => exact hk .r _ _ _ g1 (g2.mono fun t ht => (memN_app ht).1) g3
  | .cond c x y, e, w, K, h, a, Q, hs, hk, hX => by
    have hx : WX P ty N ann X x e w K → x.wp P Q a w := fun h => WX_sound hm x e w K h a Q hs (fun x2 e2 w2 a2 k1 k2 k3 => hk _ _ _ _ k1 (k2.mono fun t ht => (memN_app ht).1) k3) fun ch w2 a2 k1 k2 => hX ch w2 a2 k1 (k2.mono fun t ht => (memN_app ht).1)
    have hy : WX P ty N ann X y e w K → y.wp P Q a w := fun h => WX_sound hm y e w K h a Q hs (fun x2 e2 w2 a2 k1 k2 k3 => hk _ _ _ _ k1 (k2.mono fun t ht => (memN_app ht).2) k3) fun ch w2 a2 k1 k2 => hX ch w2 a2 k1 (k2.mono fun t ht => (memN_app ht).2)
    simp only [WX] at h
    split at h
    · rename_i v hv
      have hc := hs.ev hv
      split at h
      · exact wp_cond_true hc (hx h)
      · exact wp_cond_false hc (hy h)
      · exact h.elim
    · rename_i v hv
      have hc := hs.ev hv
      split at h
      · exact wp_cond_split hc (fun ht => hx (h.1 ht)) (fun hf => hy (h.2 hf))
      · exact h.elim
    · exact h.elim
  | .block id c, e, w, K, h, a, Q, hs, hk, hX => by
    refine wp_block (WX_sound hm c e w _ h a _ hs (fun x e' w' a' g1 g2 g3 => ?_) fun ch w' a' h1 h2 => hX ch w' a' h1 h2)
    cases x with
    | n => exact hk .n _ _ _ g1 g2 g3
    | x i =>
      simp only [Ex.exit, Exit.inBlock]
      simp only at g1
      cases hb : Nat.beq i id with
      | true =>
        simp only [hb] at g1
        rw [if_pos (Nat.eq_of_beq_eq_true hb)]
        exact hk .n _ _ _ g1 g2 g3
      | false =>
        simp only [hb] at g1
        rw [if_neg (fun he => by subst he; simp at hb)]
        exact hk (.x i) _ _ _ g1 g2 g3
    | g i => exact hk (.g i) _ _ _ g1 g2 g3
    | r => exact hk .r _ _ _ g1 g2 g3
  | .loop c, e, w, K, h, a, Q, hs, hk, hX => by
    simp only [WX] at h
    split at h
    · exact h.elim
    split at h
    · exact h.elim
    rename_i st _
    split at h
    · exact h.elim
    rename_i hin
    obtain ⟨I, M, h1, h2⟩ := h
    have h2 := headL_slots h2
    obtain ⟨s, pre, m, ⟨hf, hsl⟩, hp, hh⟩ := fwd_headL h1 h2
    refine wp_loop_rel (fun n a w => ∃ (s : Env) (pre : World → Prop) (m : World → Nat), ((∀ w', pre w' → WX P ty N ann X c (app s (dropW (writes c) e)) w' fun x e' w'' => match x with
        | .n => back st I M e' w'' (m w')
        | x => K x e' w'') ∧ Slots st s) ∧ pre w ∧ n = m w ∧ Sub D N (app s (dropW (writes c) e)) a) ⟨s, pre, m, ⟨hf, hsl⟩, hp, rfl, sub_app (.refl _ _) hs hh⟩ ?_
    rintro n a w ⟨s, pre, m, ⟨hf, hsl⟩, hp, rfl, hs⟩
    have hx := ext_app (e := e) hin hsl
    refine WX_sound hm c _ w _ (hf w hp) a _ hs (fun x e' w' a' g1 g2 g3 => ?_) fun ch w' a' h1 h2 => hX ch w' a' h1 (.trans' hx h2)
    cases x with
    | n =>
      obtain ⟨s', pre', m', ⟨hf', hsl'⟩, hp', hlt, hh'⟩ := back_headL g1 h2
      exact ⟨m' w', hlt, s', pre', m', ⟨hf', hsl'⟩, hp', rfl, sub_app (hx.trans' g2) g3 hh'⟩
    | x i => exact hk (.x i) _ _ _ g1 (hx.trans' g2) g3
    | g i => exact hk (.g i) _ _ _ g1 (hx.trans' g2) g3
    | r => exact hk .r _ _ _ g1 (hx.trans' g2) g3
  | .exit id, e, w, K, h, a, Q, hs, hk, hX => wp_exit (hk (.x id) _ _ _ h (.refl _ _) hs)
  | .scope c, e, w, K, h, a, Q, hs, hk, hX => by
    refine wp_scope_straight (WX_sound hm c e w _ h a _ hs (fun x e' w' a' g1 g2 g3 => ?_) fun ch w' a' h1 h2 => hX ch w' a' h1 h2)
    cases x with
    | n => exact hk .n _ _ _ g1 g2 g3
    | x i => exact hk (.x i) _ _ _ g1 g2 g3
    | g i => exact g1.elim
    | r => exact hk .r _ _ _ g1 g2 g3
  | .label l, e, w, K, h, a, Q, hs, hk, hX => wp_label (hk .n _ _ _ h (.refl _ _) hs)
  | .goto l, e, w, K, h, a, Q, hs, hk, hX => wp_goto (hk (.g l) _ _ _ h (.refl _ _) hs)
  | .ret, e, w, K, h, a, Q, hs, hk, hX => wp_ret (hk .r _ _ _ h (.refl _ _) hs)
  | .rangeFunc .., _, _, _, h, _, _, _, _, _ => by simp only [WX] at h
  | .refuse .., _, _, _, h, _, _, _, _, _ => by simp only [WX] at h

section
variable (P : Program) (ty : Nat → Sh) (ann : Ann)
/-- The formula of a function that may panic. -/
def BodyX (fn : Func) (c : Code) (args : List (Value × Bool)) (w : World) (R : Value → World → Prop) (RP : List PanicEntry → World → Prop) : Prop :=
  WX P ty fn.ntmps ann RP c (envOf args 0) w fun x e w' => match x with
    | .n => answer P ty fn R e w'
    | .r => answer P ty fn R e w'
    | _ => False
end
theorem env_sub (fn : Func) (vs : List (Value × Bool)) (hn' : vs.length ≤ fn.ntmps) : Sub [] fn.ntmps (envOf vs 0) { tmps := (firsts vs).toArray ++ Array.replicate (fn.ntmps - (firsts vs).toArray.size) undef, defers := [] } := by
  have hlen : ∀ l : List (Value × Bool), (firsts l).length = l.length := fun l => by induction l with
    | nil => rfl
    | cons v r ih => simp [firsts, ih]
  refine ⟨by simp [hlen]; omega, rfl, fun t v hv => ?_⟩
  obtain ⟨_, h2⟩ := get_envOf vs 0 t v hv
  have h2' : (firsts vs)[t]? = some v.1 := by simpa using h2
  have hlt := (List.getElem?_eq_some_iff.1 h2').1
  simp only
  rw [Array.getElem?_append_left (by simpa using hlt)]
  simpa using h2'
theorem answer_out {P : Program} {ty : Nat → Sh} {fn : Func} {R : Value → World → Prop} {D : List Deferred} {e : Env} {a : Act} {w' : World} (hs : Sub D fn.ntmps e a) (h1 : answer P ty fn R e w') : ∃ v, (results fn a.tmps).run P w' = .ok v w' ∧ R v w' := by
  obtain ⟨vs, hR1, hl, hv⟩ := ans_out hs _ _ h1
  refine ⟨tupled vs, ?_, hR1⟩
  have hmap := run_mapM (P := P) (w := w') hl hv
  have hres : results fn a.tmps = (fn.results.mapM (resAt a.tmps)) >>= fun vs => pure (if h : vs.size = 1 then vs[0] else .tuple vs) := by
    unfold results; congr 1
  rw [hres, Array.mapM_eq_mapM_toList]
  simp only [Sem.run_bind, Sem.run_map, hmap]
  match vs with
  | [] => rfl
  | [v] => rfl
  | v :: u :: r => rfl
/-- THE FORMULA IS ENOUGH. -/
theorem calls_of_bodyX {P : Program} {ty : Nat → Sh} {ann : Ann} {f : FuncId} {fn : Func} {c : Code} {vs : List (Value × Bool)} {w : World} {R : Value → World → Prop} {RP : List PanicEntry → World → Prop} {R' : Ending → World → Prop}
    (hm : P.follows .mixedOrders = true) (hf : P.funcs[f]? = some fn) (hb : fn.body = some c) (hn : Nat.ble vs.length fn.ntmps = true)
    (h : BodyX P ty ann fn c vs w R RP) (hR : ∀ v w', R v w' → R' (.returned v) w') (hRP : ∀ ch w', RP ch w' → R' (.panicked ch) w') : Calls P f (firsts vs).toArray w R' := by
  refine calls_of_wp hf hb (WX_sound hm c _ w _ h _ _ (env_sub fn vs (Nat.le_of_ble_eq_true hn)) (fun x e' w' a' h1 _ h3 => ?_) fun ch w' a' h1 h3 => ⟨h3.defers, hRP _ _ h1⟩)
  have key : answer P ty fn R e' w' → a'.defers = [] ∧ ∃ v, (results fn a'.tmps).run P w' = .ok v w' ∧ R' (.returned v) w' := fun h1 => by
    obtain ⟨v, hv, hr⟩ := answer_out h3 h1
    exact ⟨h3.defers, v, hv, hR _ _ hr⟩
  cases x with
  | n => exact key h1
  | r => exact key h1
  | x i => exact h1.elim
  | g i => exact h1.elim

/-! ### .. that defers one closure, and may panic behind that -/
section
variable (P : Program) (ty : Nat → Sh) (N : Nat) (ann : Ann)
/-- The formula of such a function's body; K knows what is deferred; XP: a panic behind the deferring (the slots that held before it). -/
def WDX (XP : (FuncId × Array Value) → Env → List PanicEntry → World → Prop) : Code → Env → World → (Option (FuncId × Array Value) → Ex → Env → World → Prop) → Prop
  | .seq x y, e, w, K => match deferOf x with
    | some (ops, o1, z) => wOps P ty N .full ops [o1] e w fun e' w' => match has e' z with
      | false => False
      | true => match pureRun P (Deferred.ofValue (vl e' z) #[]) with
        | some d => match d.target with
          | .fn _ _ => match pureRun P (invoke d.target d.args) with
            | some (.enter f args) => WX P ty N ann (XP (f, args) (dropW (writes y) e')) y e' w' fun x e'' w'' => K (some (f, args)) x e'' w''
            | _ => False
          | _ => False
        | none => False
    | none => W P ty N ann x e w fun x' e' w' => match x' with
      | .n => WDX XP y e' w' K
      | x' => K none x' e' w'
  | _, _, _, _ => False
end
theorem WDX_sound {P : Program} {ty : Nat → Sh} {N : Nat} {ann : Ann} {XP : (FuncId × Array Value) → Env → List PanicEntry → World → Prop} (hm : P.follows .mixedOrders = true) : ∀ (c : Code) (e : Env) (w : World) (K : Option (FuncId × Array Value) → Ex → Env → World → Prop), WDX P ty N ann XP c e w K →
    ∀ (a : Act) (Q : Exit → Act → World → Prop), Sub [] N e a → (∀ x e' w' a', K none x e' w' → Sub [] N e' a' → Q x.exit a' w') →
    (∀ f args d x e' w' a', K (some (f, args)) x e' w' → pureRun P (invoke d.target d.args) = some (.enter f args) → (∃ fv cap, d.target = .fn fv cap) → Sub [d] N e' a' → Q x.exit a' w') →
    (∀ f args d ch e' w' a', XP (f, args) e' ch w' → pureRun P (invoke d.target d.args) = some (.enter f args) → (∃ fv cap, d.target = .fn fv cap) → Sub [d] N e' a' → Q (.panic ch) a' w') → c.wp P Q a w
  | .seq x y, e, w, K, h, a, Q, hs, hk, hd, hp => by
    simp only [WDX] at h
    split at h
    · rename_i l o1 z hdo
      obtain ⟨id, ops, o2, args, tys, rfl, rfl, hl, hdst, hop, hargs, hg⟩ := deferOf_spec hdo
      refine wp_seq (wp_region_list ?_)
      have step2 : ∀ (e' : Env) (w' : World) (a' : Act), Sub [] N e' a' → (match has e' z with
          | false => False
          | true => match pureRun P (Deferred.ofValue (vl e' z) #[]) with
            | some d => match d.target with
              | .fn _ _ => match pureRun P (invoke d.target d.args) with
                | some (.enter f args) => WX P ty N ann (XP (f, args) (dropW (writes y) e')) y e' w' fun x e'' w'' => K (some (f, args)) x e'' w''
                | _ => False
              | _ => False
            | none => False) → wpList P ops (Exit.then (y.wp P Q) Q) [o2] a' w' := by
        intro e' w' a' hs' h'
        have hwant : Region.wanted o2 (yielded ops a'.tmps) = true := by simp [Region.wanted, hg]
        unfold wpList
        rw [if_pos hwant]
        refine .inl ?_
        split at h'
        · exact h'.elim
        rename_i hhas
        split at h'
        · rename_i d hpd
          split at h'
          · rename_i fv cap htar
            split at h'
            · rename_i f fargs hpi
              have hev : a'.eval z = vl e' z := hs'.vl hhas
              have hrun : (execOp a'.eval o2).run P w' = .ok (.defer d) w' := by
                have hr := pureRun_spec hpd w'
                have ha0 : args = #[] := by cases args; simp_all
                simp [execOp, hop, resolve, ha0, hev, hr, Result.andThen]
              unfold Oper.wp
              rw [hrun, Oper.upon_defer, hdst]
              unfold wpList
              have hsd : Sub [d] N e' { a' with defers := d :: a'.defers } := ⟨hs'.size, by rw [hs'.defers], hs'.at_⟩
              exact WX_sound hm y e' w' _ h' _ Q hsd (fun x e'' w'' a'' g1 _ g3 => hd f fargs d x e'' w'' a'' g1 hpi ⟨fv, cap, htar⟩ g3) fun ch w'' a'' g1 g3 => hp f fargs d ch _ w'' a'' g1 hpi ⟨fv, cap, htar⟩ g3.sub
            · exact h'.elim
          · exact h'.elim
        · exact h'.elim
      rw [hl]
      rw [hl] at h
      refine wGuard_open h hs (fun e1 he hs1 hw h => ?_) (fun e1 he hs1 hf hw h => ?_)
      · rw [← hl] at hw
        have hw : Region.wanted o1 (yielded ops a.tmps) = true := by simpa using hw
        unfold wpList; rw [if_pos hw]
        exact .inl (wStep_sound h hs1 fun v w' a' hh hs' => step2 _ w' a' hs' hh)
      · rw [← hl] at hw
        have hw : Region.wanted o1 (yielded ops a.tmps) = false := by simpa using hw
        unfold wpList; rw [if_neg (by simp [hw])]
        exact step2 _ w _ (hs1.put (v := (undef, false)) hf) h
    · refine wp_seq (W_sound hm x e w _ h a _ hs fun x e' w' a' h1 h2 h3 => ?_)
      cases x with
      | n => exact WDX_sound hm y e' w' K h1 a' Q h3 hk hd hp
      | x i => exact hk (.x i) _ _ _ h1 h3
      | g i => exact hk (.g i) _ _ _ h1 h3
      | r => exact hk .r _ _ _ h1 h3
  | .skip, e, w, K, h, _, _, _, _, _, _ => h.elim
  | .region .., e, w, K, h, _, _, _, _, _, _ => h.elim
  | .cond .., e, w, K, h, _, _, _, _, _, _ => h.elim
  | .block .., e, w, K, h, _, _, _, _, _, _ => h.elim
  | .loop .., e, w, K, h, _, _, _, _, _, _ => h.elim
  | .exit .., e, w, K, h, _, _, _, _, _, _ => h.elim
  | .label .., e, w, K, h, _, _, _, _, _, _ => h.elim
  | .goto .., e, w, K, h, _, _, _, _, _, _ => h.elim
  | .ret, e, w, K, h, _, _, _, _, _, _ => h.elim
  | .rangeFunc .., e, w, K, h, _, _, _, _, _, _ => h.elim
  | .refuse .., e, w, K, h, _, _, _, _, _, _ => h.elim
  | .scope .., e, w, K, h, _, _, _, _, _, _ => h.elim
section
variable (P : Program) (ty : Nat → Sh) (ann : Ann)
/-- The deferred closure, where the function returns: it returns itself; where it panics: it recovers, and what the function hands back is read then. -/
def BodyDX (fn : Func) (c : Code) (args : List (Value × Bool)) (w : World) (R : Value → World → Prop) : Prop :=
  WDX P ty fn.ntmps ann (fun D e ch w' => CallsD P D.1 D.2 (.panicking ch) w' fun en u w'' => (∃ v, en = .returned v) ∧ settle u = .returning ∧ answer P ty fn R e w'') c (envOf args 0) w fun D x e w' =>
    (match x with
    | .n | .r => match D with
      | none => answer P ty fn R e w'
      | some (f, fargs) => CallsD P f fargs .returning w' fun en u w'' => (∃ v, en = .returned v) ∧ u = .returning ∧ answer P ty fn R e w''
    | _ => False)
end
/-- THE FORMULA IS ENOUGH. -/
theorem calls_of_bodyDX {P : Program} {ty : Nat → Sh} {ann : Ann} {f : FuncId} {fn : Func} {c : Code} {vs : List (Value × Bool)} {w : World} {R : Value → World → Prop} {R' : Ending → World → Prop}
    (hm : P.follows .mixedOrders = true) (hf : P.funcs[f]? = some fn) (hb : fn.body = some c) (hn : Nat.ble vs.length fn.ntmps = true)
    (h : BodyDX P ty ann fn c vs w R) (hR : ∀ v w', R v w' → R' (.returned v) w') : Calls P f (firsts vs).toArray w R' := by
  have out : ∀ (D : List Deferred) (e : Env) (a : Act) (w' : World), Sub D fn.ntmps e a → answer P ty fn R e w' → ∃ v, (results fn a.tmps).run P w' = .ok v w' ∧ R' (.returned v) w' := fun D e a w' hs h1 => by
    obtain ⟨v, hv, hr⟩ := answer_out hs h1
    exact ⟨v, hv, hR _ _ hr⟩
  refine calls_of_wp_defers hf hb (WDX_sound hm c _ w _ h _ _ (env_sub fn vs (Nat.le_of_ble_eq_true hn)) (fun x e' w' a' h1 h3 => ?_) (fun g args d x e' w' a' h1 hi ⟨fv, cap, ht⟩ h3 => ?_) (fun g args d ch e' w' a' h1 hi ⟨fv, cap, ht⟩ h3 => ?_))
  · have key : answer P ty fn R e' w' → Leaves P fn a'.tmps R' a'.defers .returning w' := fun h1 => by
      rw [h3.defers]
      exact out _ _ _ _ h3 h1
    cases x with
    | n => exact key h1
    | r => exact key h1
    | x i => exact h1.elim
    | g i => exact h1.elim
  · have key : (CallsD P g args .returning w' fun en u w'' => (∃ v, en = .returned v) ∧ u = .returning ∧ answer P ty fn R e' w'') → Leaves P fn a'.tmps R' a'.defers .returning w' := fun h1 => by
      rw [h3.defers]
      obtain ⟨dt, da⟩ := d
      simp only at ht
      subst ht
      refine leaves_cons (by simp) (pureRun_spec hi w') (h1.mono fun en u w'' ⟨⟨v, hv⟩, hu, ha⟩ => ?_)
      subst hv hu
      exact out _ _ _ _ h3 ha
    cases x with
    | n => exact key h1
    | r => exact key h1
    | x i => exact h1.elim
    | g i => exact h1.elim
  · show Leaves P fn a'.tmps R' a'.defers (.panicking ch) w'
    rw [h3.defers]
    obtain ⟨dt, da⟩ := d
    simp only at ht
    subst ht
    refine leaves_cons (by simp) (pureRun_spec hi w') (h1.mono fun en u w'' ⟨⟨v, hv⟩, hu, ha⟩ => ?_)
    subst hv
    show Leaves P fn a'.tmps R' [] (settle u) w''
    rw [hu]
    exact out _ _ _ _ h3 ha
end Vc

/- Formulas of 6 Go functions of this seat (written by a program of the author's, vcgen.py), and that each is enough for the call. No condition. -/
set_option linter.unusedVariables false
namespace Go.Proofs.YtlohadencnpdgaaDoor
open Go Vc Go.Proofs
set_option maxRecDepth 100000
/-- zip.must#x -/
def vc_zip_must_x (x0 : Bool) (x1 : Int) (w : World) (R : Value → World → Prop) (RP : List PanicEntry → World → Prop) : Prop :=
  ((((!x0) = true →
     RP [PanicEntry.mk (Value.iface 36 (Value.int IntKind.i64 x1)) false false] w)) ∧
   ((!x0) = false →
     R (Value.tuple (Array.mk [])) w))
theorem vc_zip_must_x_ok {x0 : Bool} {x1 : Int} {w : World} {R : Value → World → Prop} {RP : List PanicEntry → World → Prop} {R' : Ending → World → Prop} (h : vc_zip_must_x x0 x1 w R RP) (hR : ∀ v w', R v w' → R' (.returned v) w') (hRP : ∀ ch w', RP ch w' → R' (.panicked ch) w') :
    Calls Tryd.prog 16 #[.bool x0, .int .i64 x1] w R' :=
  calls_of_bodyX (vs := [(.bool x0, false), (.int .i64 x1, false)]) (ty := ty) (ann := ⟨[], [], [], []⟩) (c := Tryd.f16.body.getD .skip) (by kernel_rfl) Tryd.func16 (by kernel_rfl) (by kernel_rfl) (Eq.mp (by kernel_rfl) h) hR hRP
/-- (*zip.reader).take#x -/
def vc_zip_reader_take_x (x0 : Nat) (x1 : Int) (w : World) (R : Value → World → Prop) (RP : List PanicEntry → World → Prop) : Prop :=
  ∀ w1 : World,
  (Drew w w1 →
    ∃ I2 : World → Prop, (I2 w1 ∧
     ∃ s3 : ByteArray, ((∀ w4 : World,
      (I2 w4 →
        World.cell? w4 (Addr.mk x0 0 none) = some (Value.string s3))) ∧
      ∃ n5 : Int, ((∀ w6 : World,
       (I2 w6 →
         World.cell? w6 (Addr.mk x0 1 none) = some (Value.int IntKind.i64 n5))) ∧
       Calls Tryd.prog (16 : Nat) (Array.mk [Value.bool (decide (x1 ≤ IntKind.wrap IntKind.i64 ((↑(ByteArray.size s3) : Int) - n5))), Value.int IntKind.i64 6]) (w1) (fun e7 w8 =>
         (((e7 = Ending.returned (Value.tuple (Array.mk [])) ∧
           ∃ n9 : Int, (World.cell? w8 (Addr.mk x0 1 none) = some (Value.int IntKind.i64 n9) ∧
            (Wr w8 (Addr.mk x0 1 none) ∧
             ∀ w10 : World,
             (w10 = World.setCell w8 (Addr.mk x0 1 none) (Value.int IntKind.i64 (IntKind.wrap IntKind.i64 (n9 + x1))) →
               ∃ s11 : ByteArray, (World.cell? w10 (Addr.mk x0 0 none) = some (Value.string s11) ∧
                ∃ n12 : Int, (World.cell? w10 (Addr.mk x0 1 none) = some (Value.int IntKind.i64 n12) ∧
                 ∃ n13 : Int, (World.cell? w10 (Addr.mk x0 1 none) = some (Value.int IntKind.i64 n13) ∧
                  ((0 ≤ IntKind.wrap IntKind.i64 (n12 - x1) ∧
                    (IntKind.wrap IntKind.i64 (n12 - x1) ≤ n13 ∧
                     n13 ≤ (↑(ByteArray.size s11) : Int))) ∧
                   ∀ w14 : World,
                   (Drew w10 w14 →
                     R (Value.string (ByteArray.extract s11 (Int.toNat (IntKind.wrap IntKind.i64 (n12 - x1))) (Int.toNat n13))) w14)))))))))) ∨
          (∃ z15 : List PanicEntry, (e7 = Ending.panicked z15 ∧
           RP z15 w8))))))))
theorem vc_zip_reader_take_x_ok {x0 : Nat} {x1 : Int} {w : World} {R : Value → World → Prop} {RP : List PanicEntry → World → Prop} {R' : Ending → World → Prop} (h : vc_zip_reader_take_x x0 x1 w R RP) (hR : ∀ v w', R v w' → R' (.returned v) w') (hRP : ∀ ch w', RP ch w' → R' (.panicked ch) w') :
    Calls Tryd.prog 19 #[.pointer (some ⟨x0, 0, none⟩), .int .i64 x1] w R' :=
  calls_of_bodyX (vs := [(.pointer (some ⟨x0, 0, none⟩), true), (.int .i64 x1, false)]) (ty := ty) (ann := ⟨[], [], [(1, .held [(0, true), (1, true), (2, true), (3, true), (4, true), (5, true), (6, true), (7, true), (8, true), (9, true), (10, true), (11, true), (12, false)]), (3, .quiet)], []⟩) (c := Tryd.f19.body.getD .skip) (by kernel_rfl) Tryd.func19 (by kernel_rfl) (by kernel_rfl) (Eq.mp (by kernel_rfl) h) hR hRP
/-- (*zip.reader).number#x -/
def vc_zip_reader_number_x (x0 : Nat) (x1 : Int) (w : World) (R : Value → World → Prop) (RP : List PanicEntry → World → Prop) : Prop :=
  Calls Tryd.prog (19 : Nat) (Array.mk [Value.pointer (some (Addr.mk x0 0 none)), Value.int IntKind.i64 x1]) (w) (fun e1 w2 =>
    ((∃ s3 : ByteArray, (e1 = Ending.returned (Value.string s3) ∧
      Calls Tryd.prog (26 : Nat) (Array.mk [Value.string s3]) (w2) (fun e4 w5 =>
        ((∃ n6 : Int, (e4 = Ending.returned (Value.int IntKind.u64 n6) ∧
          R (Value.int IntKind.i64 (IntKind.wrap IntKind.i64 n6)) w5)) ∨
         (∃ z7 : List PanicEntry, (e4 = Ending.panicked z7 ∧
          RP z7 w5)))))) ∨
     (∃ z8 : List PanicEntry, (e1 = Ending.panicked z8 ∧
      RP z8 w2))))
theorem vc_zip_reader_number_x_ok {x0 : Nat} {x1 : Int} {w : World} {R : Value → World → Prop} {RP : List PanicEntry → World → Prop} {R' : Ending → World → Prop} (h : vc_zip_reader_number_x x0 x1 w R RP) (hR : ∀ v w', R v w' → R' (.returned v) w') (hRP : ∀ ch w', RP ch w' → R' (.panicked ch) w') :
    Calls Tryd.prog 15 #[.pointer (some ⟨x0, 0, none⟩), .int .i64 x1] w R' :=
  calls_of_bodyX (vs := [(.pointer (some ⟨x0, 0, none⟩), true), (.int .i64 x1, false)]) (ty := ty) (ann := ⟨[], [], [], []⟩) (c := Tryd.f15.body.getD .skip) (by kernel_rfl) Tryd.func15 (by kernel_rfl) (by kernel_rfl) (Eq.mp (by kernel_rfl) h) hR hRP
/-- (*zip.reader).want#x -/
def vc_zip_reader_want_x (x0 : Nat) (x1 : ByteArray) (w : World) (R : Value → World → Prop) (RP : List PanicEntry → World → Prop) : Prop :=
  Calls Tryd.prog (19 : Nat) (Array.mk [Value.pointer (some (Addr.mk x0 0 none)), Value.int IntKind.i64 (↑(ByteArray.size x1) : Int)]) (w) (fun e1 w2 =>
    ((∃ s3 : ByteArray, (e1 = Ending.returned (Value.string s3) ∧
      Calls Tryd.prog (16 : Nat) (Array.mk [Value.bool (ByteArray.toList s3 == ByteArray.toList x1), Value.int IntKind.i64 3]) (w2) (fun e4 w5 =>
        (((e4 = Ending.returned (Value.tuple (Array.mk [])) ∧
          R (Value.tuple (Array.mk [])) w5)) ∨
         (∃ z6 : List PanicEntry, (e4 = Ending.panicked z6 ∧
          RP z6 w5)))))) ∨
     (∃ z7 : List PanicEntry, (e1 = Ending.panicked z7 ∧
      RP z7 w2))))
theorem vc_zip_reader_want_x_ok {x0 : Nat} {x1 : ByteArray} {w : World} {R : Value → World → Prop} {RP : List PanicEntry → World → Prop} {R' : Ending → World → Prop} (h : vc_zip_reader_want_x x0 x1 w R RP) (hR : ∀ v w', R v w' → R' (.returned v) w') (hRP : ∀ ch w', RP ch w' → R' (.panicked ch) w') :
    Calls Tryd.prog 13 #[.pointer (some ⟨x0, 0, none⟩), .string x1] w R' :=
  calls_of_bodyX (vs := [(.pointer (some ⟨x0, 0, none⟩), true), (.string x1, false)]) (ty := ty) (ann := ⟨[], [], [], []⟩) (c := Tryd.f13.body.getD .skip) (by kernel_rfl) Tryd.func13 (by kernel_rfl) (by kernel_rfl) (Eq.mp (by kernel_rfl) h) hR hRP
/-- (*zip.reader).head#x -/
def vc_zip_reader_head_x (x0 : Nat) (w : World) (R : Value → World → Prop) (RP : List PanicEntry → World → Prop) : Prop :=
  ∀ w1 : World,
  (w1 = World.alloc w (Obj.cells (Array.mk [Value.int IntKind.i64 0, Value.int IntKind.u32 0, Value.int IntKind.i64 0, Value.int IntKind.i64 0, Value.int IntKind.i64 0]) 48) →
    Calls Tryd.prog (14 : Nat) (Array.mk [Value.int IntKind.i64 (20 : Int)]) (w1) (fun e2 w3 =>
      ((∃ s4 : ByteArray, (e2 = Ending.returned (Value.string s4) ∧
        Calls Tryd.prog (14 : Nat) (Array.mk [Value.int IntKind.i64 (0 : Int)]) (w3) (fun e5 w6 =>
          ((∃ s7 : ByteArray, (e5 = Ending.returned (Value.string s7) ∧
            (ByteArray.size s4 + ByteArray.size s7 ≤ 9223372036854775807 ∧
             Calls Tryd.prog (13 : Nat) (Array.mk [Value.pointer (some (Addr.mk x0 0 none)), Value.string (s4 ++ s7)]) (w6) (fun e8 w9 =>
               (((e8 = Ending.returned (Value.tuple (Array.mk [])) ∧
                 Calls Tryd.prog (15 : Nat) (Array.mk [Value.pointer (some (Addr.mk x0 0 none)), Value.int IntKind.i64 2]) (w9) (fun e10 w11 =>
                   ((∃ n12 : Int, (e10 = Ending.returned (Value.int IntKind.i64 n12) ∧
                     ∀ w13 : World,
                     (w13 = World.alloc w11 (Obj.cells (Array.mk [Value.int IntKind.i64 0, Value.int IntKind.u32 0, Value.int IntKind.i64 0, Value.int IntKind.i64 0, Value.int IntKind.i64 0]) 48) →
                       ∃ w14 : World, (Sem.run Tryd.prog (storeVar 48 (Addr.mk (Array.size (World.heap w11)) 0 none) (Value.agg (Array.mk [Value.int IntKind.i64 n12, Value.int IntKind.u32 0, Value.int IntKind.i64 0, Value.int IntKind.i64 0, Value.int IntKind.i64 0]))) w13 = Result.ok PUnit.unit w14 ∧
                        Calls Tryd.prog (14 : Nat) (Array.mk [Value.int IntKind.i64 (0 : Int)]) (w14) (fun e15 w16 =>
                          ((∃ s17 : ByteArray, (e15 = Ending.returned (Value.string s17) ∧
                            Calls Tryd.prog (14 : Nat) (Array.mk [Value.int IntKind.i64 (0 : Int)]) (w16) (fun e18 w19 =>
                              ((∃ s20 : ByteArray, (e18 = Ending.returned (Value.string s20) ∧
                                (ByteArray.size s17 + ByteArray.size s20 ≤ 9223372036854775807 ∧
                                 Calls Tryd.prog (13 : Nat) (Array.mk [Value.pointer (some (Addr.mk x0 0 none)), Value.string (s17 ++ s20)]) (w19) (fun e21 w22 =>
                                   (((e21 = Ending.returned (Value.tuple (Array.mk [])) ∧
                                     Calls Tryd.prog (15 : Nat) (Array.mk [Value.pointer (some (Addr.mk x0 0 none)), Value.int IntKind.i64 4]) (w22) (fun e23 w24 =>
                                       ((∃ n25 : Int, (e23 = Ending.returned (Value.int IntKind.i64 n25) ∧
                                         (Wr w24 (Addr.mk (Array.size (World.heap w11)) 1 none) ∧
                                          ∀ w26 : World,
                                          (w26 = World.setCell w24 (Addr.mk (Array.size (World.heap w11)) 1 none) (Value.int IntKind.u32 (IntKind.wrap IntKind.u32 n25)) →
                                            Calls Tryd.prog (15 : Nat) (Array.mk [Value.pointer (some (Addr.mk x0 0 none)), Value.int IntKind.i64 4]) (w26) (fun e27 w28 =>
                                              ((∃ n29 : Int, (e27 = Ending.returned (Value.int IntKind.i64 n29) ∧
                                                Calls Tryd.prog (15 : Nat) (Array.mk [Value.pointer (some (Addr.mk x0 0 none)), Value.int IntKind.i64 4]) (w28) (fun e30 w31 =>
                                                  ((∃ n32 : Int, (e30 = Ending.returned (Value.int IntKind.i64 n32) ∧
                                                    Calls Tryd.prog (15 : Nat) (Array.mk [Value.pointer (some (Addr.mk x0 0 none)), Value.int IntKind.i64 2]) (w31) (fun e33 w34 =>
                                                      ((∃ n35 : Int, (e33 = Ending.returned (Value.int IntKind.i64 n35) ∧
                                                        (Wr w34 (Addr.mk (Array.size (World.heap w11)) 2 none) ∧
                                                         ∀ w36 : World,
                                                         (w36 = World.setCell w34 (Addr.mk (Array.size (World.heap w11)) 2 none) (Value.int IntKind.i64 n29) →
                                                           (Wr w36 (Addr.mk (Array.size (World.heap w11)) 3 none) ∧
                                                            ∀ w37 : World,
                                                            (w37 = World.setCell w36 (Addr.mk (Array.size (World.heap w11)) 3 none) (Value.int IntKind.i64 n32) →
                                                              (Wr w37 (Addr.mk (Array.size (World.heap w11)) 4 none) ∧
                                                               ∀ w38 : World,
                                                               (w38 = World.setCell w37 (Addr.mk (Array.size (World.heap w11)) 4 none) (Value.int IntKind.i64 n35) →
                                                                 Calls Tryd.prog (14 : Nat) (Array.mk [Value.int IntKind.i64 (0 : Int)]) (w38) (fun e39 w40 =>
                                                                   ((∃ s41 : ByteArray, (e39 = Ending.returned (Value.string s41) ∧
                                                                     Calls Tryd.prog (13 : Nat) (Array.mk [Value.pointer (some (Addr.mk x0 0 none)), Value.string s41]) (w40) (fun e42 w43 =>
                                                                       (((e42 = Ending.returned (Value.tuple (Array.mk [])) ∧
                                                                         ∃ n44 : Int, ∃ n45 : Int, ∃ n46 : Int, ∃ n47 : Int, ∃ n48 : Int, (Sem.run Tryd.prog (loadVar 48 (Addr.mk (Array.size (World.heap w11)) 0 none)) w43 = Result.ok (Value.agg (Array.mk [Value.int IntKind.i64 n44, Value.int IntKind.u32 n45, Value.int IntKind.i64 n46, Value.int IntKind.i64 n47, Value.int IntKind.i64 n48])) w43 ∧
                                                                          ∃ w49 : World, (Sem.run Tryd.prog (storeVar 48 (Addr.mk (Array.size (World.heap w)) 0 none) (Value.agg (Array.mk [Value.int IntKind.i64 n44, Value.int IntKind.u32 n45, Value.int IntKind.i64 n46, Value.int IntKind.i64 n47, Value.int IntKind.i64 n48]))) w43 = Result.ok PUnit.unit w49 ∧
                                                                           ∃ n50 : Int, ∃ n51 : Int, ∃ n52 : Int, ∃ n53 : Int, ∃ n54 : Int, (Sem.run Tryd.prog (loadVar 48 (Addr.mk (Array.size (World.heap w)) 0 none)) w49 = Result.ok (Value.agg (Array.mk [Value.int IntKind.i64 n50, Value.int IntKind.u32 n51, Value.int IntKind.i64 n52, Value.int IntKind.i64 n53, Value.int IntKind.i64 n54])) w49 ∧
                                                                            R (Value.agg (Array.mk [Value.int IntKind.i64 n50, Value.int IntKind.u32 n51, Value.int IntKind.i64 n52, Value.int IntKind.i64 n53, Value.int IntKind.i64 n54])) w49))))) ∨
                                                                        (∃ z55 : List PanicEntry, (e42 = Ending.panicked z55 ∧
                                                                         RP z55 w43)))))) ∨
                                                                    (∃ z56 : List PanicEntry, (e39 = Ending.panicked z56 ∧
                                                                     RP z56 w40)))))))))))) ∨
                                                       (∃ z57 : List PanicEntry, (e33 = Ending.panicked z57 ∧
                                                        RP z57 w34)))))) ∨
                                                   (∃ z58 : List PanicEntry, (e30 = Ending.panicked z58 ∧
                                                    RP z58 w31)))))) ∨
                                               (∃ z59 : List PanicEntry, (e27 = Ending.panicked z59 ∧
                                                RP z59 w28)))))))) ∨
                                        (∃ z60 : List PanicEntry, (e23 = Ending.panicked z60 ∧
                                         RP z60 w24)))))) ∨
                                    (∃ z61 : List PanicEntry, (e21 = Ending.panicked z61 ∧
                                     RP z61 w22))))))) ∨
                               (∃ z62 : List PanicEntry, (e18 = Ending.panicked z62 ∧
                                RP z62 w19)))))) ∨
                           (∃ z63 : List PanicEntry, (e15 = Ending.panicked z63 ∧
                            RP z63 w16)))))))) ∨
                    (∃ z64 : List PanicEntry, (e10 = Ending.panicked z64 ∧
                     RP z64 w11)))))) ∨
                (∃ z65 : List PanicEntry, (e8 = Ending.panicked z65 ∧
                 RP z65 w9))))))) ∨
           (∃ z66 : List PanicEntry, (e5 = Ending.panicked z66 ∧
            RP z66 w6)))))) ∨
       (∃ z67 : List PanicEntry, (e2 = Ending.panicked z67 ∧
        RP z67 w3)))))
theorem vc_zip_reader_head_x_ok {x0 : Nat} {w : World} {R : Value → World → Prop} {RP : List PanicEntry → World → Prop} {R' : Ending → World → Prop} (h : vc_zip_reader_head_x x0 w R RP) (hR : ∀ v w', R v w' → R' (.returned v) w') (hRP : ∀ ch w', RP ch w' → R' (.panicked ch) w') :
    Calls Tryd.prog 17 #[.pointer (some ⟨x0, 0, none⟩)] w R' :=
  calls_of_bodyX (vs := [(.pointer (some ⟨x0, 0, none⟩), true)]) (ty := ty) (ann := ⟨[], [], [], []⟩) (c := Tryd.f17.body.getD .skip) (by kernel_rfl) Tryd.func17 (by kernel_rfl) (by kernel_rfl) (Eq.mp (by kernel_rfl) h) hR hRP
/-- (zip.entry).unpack#x -/
def vc_zip_entry_unpack_x (x0_0 : Int) (x0_1 : Int) (x0_2 : Int) (x0_3 : Int) (x0_4 : Int) (x0_5 : ByteArray) (x0_6 : Int) (x1 : ByteArray) (w : World) (R : Value → World → Prop) (RP : List PanicEntry → World → Prop) : Prop :=
  ∀ w1 : World,
  (w1 = World.alloc w (Obj.cells (Array.mk [Value.int IntKind.i64 x0_0, Value.int IntKind.u32 x0_1, Value.int IntKind.i64 x0_2, Value.int IntKind.i64 x0_3, Value.int IntKind.i64 x0_4, Value.string x0_5, Value.int IntKind.i64 x0_6]) 51) →
    ∃ I2 : ByteArray → World → Prop, ((∃ n3 : Int, (World.cell? w1 (Addr.mk (Array.size (World.heap w)) 0 none) = some (Value.int IntKind.i64 n3) ∧
      ((((n3 == 0) = true →
         ∃ n4 : Int, (World.cell? w1 (Addr.mk (Array.size (World.heap w)) 2 none) = some (Value.int IntKind.i64 n4) ∧
          ∃ n5 : Int, (World.cell? w1 (Addr.mk (Array.size (World.heap w)) 3 none) = some (Value.int IntKind.i64 n5) ∧
           Calls Tryd.prog (16 : Nat) (Array.mk [Value.bool (n4 == n5), Value.int IntKind.i64 3]) (w1) (fun e6 w7 =>
             (((e6 = Ending.returned (Value.tuple (Array.mk [])) ∧
               I2 x1 w7)) ∨
              (∃ z8 : List PanicEntry, (e6 = Ending.panicked z8 ∧
               RP z8 w7)))))))) ∧
       ((n3 == 0) = false →
         ((((n3 == 8) = true →
            ∃ n9 : Int, (World.cell? w1 (Addr.mk (Array.size (World.heap w)) 3 none) = some (Value.int IntKind.i64 n9) ∧
             Calls Tryd.prog (16 : Nat) (Array.mk [Value.bool (decide (n9 ≤ 65536)), Value.int IntKind.i64 2]) (w1) (fun e10 w11 =>
               (((e10 = Ending.returned (Value.tuple (Array.mk [])) ∧
                 ∃ n12 : Int, (World.cell? w11 (Addr.mk (Array.size (World.heap w)) 3 none) = some (Value.int IntKind.i64 n12) ∧
                  Calls Tryd.prog (27 : Nat) (Array.mk [Value.string x1, Value.int IntKind.i64 0, Value.int IntKind.i64 n12]) (w11) (fun e13 w14 =>
                    ((∃ s15 : ByteArray, ∃ n16 : Int, ∃ n17 : Int, (e13 = Ending.returned (Value.tuple (Array.mk [Value.string s15, Value.int IntKind.i64 n16, Value.int IntKind.i64 n17])) ∧
                      ((((n17 == 0) = true →
                         ((((n16 == (↑(ByteArray.size x1) : Int)) = true →
                            ∃ n18 : Int, (World.cell? w14 (Addr.mk (Array.size (World.heap w)) 3 none) = some (Value.int IntKind.i64 n18) ∧
                             Calls Tryd.prog (16 : Nat) (Array.mk [Value.bool ((↑(ByteArray.size s15) : Int) == n18), Value.int IntKind.i64 3]) (w14) (fun e19 w20 =>
                               (((e19 = Ending.returned (Value.tuple (Array.mk [])) ∧
                                 I2 s15 w20)) ∨
                                (∃ z21 : List PanicEntry, (e19 = Ending.panicked z21 ∧
                                 RP z21 w20))))))) ∧
                          ((n16 == (↑(ByteArray.size x1) : Int)) = false →
                            Calls Tryd.prog (16 : Nat) (Array.mk [Value.bool false, Value.int IntKind.i64 (3 : Int)]) (w14) (fun e22 w23 =>
                              (((e22 = Ending.returned (Value.tuple (Array.mk [])) ∧
                                I2 s15 w23)) ∨
                               (∃ z24 : List PanicEntry, (e22 = Ending.panicked z24 ∧
                                RP z24 w23)))))))) ∧
                       ((n17 == 0) = false →
                         Calls Tryd.prog (16 : Nat) (Array.mk [Value.bool false, Value.int IntKind.i64 (3 : Int)]) (w14) (fun e25 w26 =>
                           (((e25 = Ending.returned (Value.tuple (Array.mk [])) ∧
                             I2 s15 w26)) ∨
                            (∃ z27 : List PanicEntry, (e25 = Ending.panicked z27 ∧
                             RP z27 w26)))))))) ∨
                     (∃ z28 : List PanicEntry, (e13 = Ending.panicked z28 ∧
                      RP z28 w14))))))) ∨
                (∃ z29 : List PanicEntry, (e10 = Ending.panicked z29 ∧
                 RP z29 w11))))))) ∧
          ((n3 == 8) = false →
            RP [PanicEntry.mk (Value.iface 36 (Value.int IntKind.i64 10)) false false] w1)))))) ∧
     ∀ s30 : ByteArray,
     ∀ w31 : World,
     (I2 s30 w31 →
       ∀ w32 : World,
       (Drew w31 w32 →
         ∃ I33 : World → Prop, (I33 w32 ∧
          ∃ n34 : Int, ((∀ w35 : World,
           (I33 w35 →
             World.cell? w35 (Addr.mk (Array.size (World.heap w)) 1 none) = some (Value.int IntKind.u32 n34))) ∧
           Calls Tryd.prog (23 : Nat) (Array.mk [Value.string s30]) (w32) (fun e36 w37 =>
             ((∃ n38 : Int, (e36 = Ending.returned (Value.int IntKind.u32 n38) ∧
               (I33 w37 ∧
                Calls Tryd.prog (16 : Nat) (Array.mk [Value.bool (n38 == n34), Value.int IntKind.i64 5]) (w37) (fun e39 w40 =>
                  (((e39 = Ending.returned (Value.tuple (Array.mk [])) ∧
                    R (Value.string s30) w40)) ∨
                   (∃ z41 : List PanicEntry, (e39 = Ending.panicked z41 ∧
                    RP z41 w40))))))) ∨
              (∃ z42 : List PanicEntry, (e36 = Ending.panicked z42 ∧
               RP z42 w37))))))))))
theorem vc_zip_entry_unpack_x_ok {x0_0 : Int} {x0_1 : Int} {x0_2 : Int} {x0_3 : Int} {x0_4 : Int} {x0_5 : ByteArray} {x0_6 : Int} {x1 : ByteArray} {w : World} {R : Value → World → Prop} {RP : List PanicEntry → World → Prop} {R' : Ending → World → Prop} (h : vc_zip_entry_unpack_x x0_0 x0_1 x0_2 x0_3 x0_4 x0_5 x0_6 x1 w R RP) (hR : ∀ v w', R v w' → R' (.returned v) w') (hRP : ∀ ch w', RP ch w' → R' (.panicked ch) w') :
    Calls Tryd.prog 20 #[.agg #[.int .i64 x0_0, .int .u32 x0_1, .int .i64 x0_2, .int .i64 x0_3, .int .i64 x0_4, .string x0_5, .int .i64 x0_6], .string x1] w R' :=
  calls_of_bodyX (vs := [(.agg #[.int .i64 x0_0, .int .u32 x0_1, .int .i64 x0_2, .int .i64 x0_3, .int .i64 x0_4, .string x0_5, .int .i64 x0_6], false), (.string x1, false)]) (ty := ty) (ann := ⟨[(10, [(1, .str)])], [], [(10, .held [(0, true), (2, true), (3, true), (4, true), (1, false), (5, true), (6, false)])], []⟩) (c := Tryd.f20.body.getD .skip) (by kernel_rfl) Tryd.func20 (by kernel_rfl) (by kernel_rfl) (Eq.mp (by kernel_rfl) h) hR hRP
end Go.Proofs.YtlohadencnpdgaaDoor

/- Plain facts on codes by their lengths. -/
set_option linter.unusedVariables false
namespace HuffM
/-- How many of the numbers of n bits the codes of at most n bits take up. -/
def fin (ls : List Nat) : Nat → Nat
  | 0 => 0
  | n + 1 => 2 * fin ls n + ls.count (n + 1)
theorem fin_nil : ∀ m, fin [] m = 0
  | 0 => rfl
  | m + 1 => by simp [fin, fin_nil m]
theorem fin_cons (x : Nat) (ls : List Nat) : ∀ m, fin (x :: ls) m = fin ls m + (if 1 ≤ x ∧ x ≤ m then 2 ^ (m - x) else 0)
  | 0 => by simp only [fin]; rw [if_neg (by omega)]
  | m + 1 => by
    simp only [fin, fin_cons x ls m, List.count_cons]
    have hc : (if (x == m + 1) = true then 1 else 0) = if x = m + 1 then 1 else 0 := by
      by_cases h : x = m + 1
      · rw [if_pos h, if_pos (by simpa using h)]
      · rw [if_neg h, if_neg (by simpa using h)]
    rw [hc]
    by_cases h1 : 1 ≤ x ∧ x ≤ m
    · have h2 : 1 ≤ x ∧ x ≤ m + 1 := by omega
      have h3 : ¬ x = m + 1 := by omega
      rw [if_pos h1, if_pos h2, if_neg h3, show m + 1 - x = (m - x) + 1 by omega, Nat.pow_succ]; omega
    · by_cases h2 : x = m + 1
      · have h3 : 1 ≤ x ∧ x ≤ m + 1 := by omega
        rw [if_neg h1, if_pos h2, if_pos h3, show m + 1 - x = 0 by omega]; omega
      · have h3 : ¬ (1 ≤ x ∧ x ≤ m + 1) := by omega
        rw [if_neg h1, if_neg h2, if_neg h3]; omega
theorem fin_double (ls : List Nat) (n : Nat) : ∀ d, 2 ^ d * fin ls n ≤ fin ls (n + d)
  | 0 => by simp
  | d + 1 => by
    have := fin_double ls n d
    rw [← Nat.add_assoc, fin, Nat.pow_succ, Nat.mul_comm (2 ^ d) 2, Nat.mul_assoc]; omega
/-- Over-full at n: over-full at every greater length. -/
theorem over_later (ls : List Nat) {n m : Nat} (h : 2 ^ n < fin ls n) (hm : n ≤ m) : 2 ^ m < fin ls m := by
  have := fin_double ls n (m - n)
  rw [show n + (m - n) = m by omega] at this
  have h2 : 2 ^ m = 2 ^ (m - n) * 2 ^ n := by rw [← Nat.pow_add]; congr 1; omega
  have h3 : 2 ^ (m - n) * 2 ^ n < 2 ^ (m - n) * fin ls n := Nat.mul_lt_mul_of_pos_left h (Nat.two_pow_pos _)
  omega
/-- The symbols whose codes have n bits. -/
def syms (ls : List Nat) (n : Nat) : List Nat := (List.range ls.length).filter (fun s => ls[s]? == some n)
/-- The symbols by length, up to n bits. -/
def sorted (ls : List Nat) : Nat → List Nat
  | 0 => []
  | n + 1 => sorted ls n ++ syms ls (n + 1)
/-- A symbol's code. -/
def code (ls : List Nat) (s : Nat) : Nat := 2 * fin ls (ls.getD s 0 - 1) + (ls.take s).count (ls.getD s 0)
theorem filter_range_get (p : Nat → Bool) : ∀ (k r s : Nat), ((List.range k).filter p)[r]? = some s → p s = true ∧ s < k ∧ ((List.range s).filter p).length = r
  | 0, r, s, h => by simp at h
  | k + 1, r, s, h => by
    rw [List.range_succ, List.filter_append] at h
    by_cases hr : r < ((List.range k).filter p).length
    · rw [List.getElem?_append_left hr] at h
      obtain ⟨h1, h2, h3⟩ := filter_range_get p k r s h
      exact ⟨h1, by omega, h3⟩
    · rw [List.getElem?_append_right (by omega)] at h
      by_cases hp : p k = true
      · rw [List.filter_cons_of_pos hp] at h
        cases hq : r - ((List.range k).filter p).length with
        | zero =>
          rw [hq] at h
          simp only [List.filter_nil, List.getElem?_cons_zero, Option.some.injEq] at h
          subst h
          exact ⟨hp, by omega, by omega⟩
        | succ q => rw [hq] at h; simp at h
      · rw [List.filter_cons_of_neg hp] at h; simp at h
theorem filter_range_count (ls : List Nat) (n : Nat) : ∀ k, k ≤ ls.length → ((List.range k).filter (fun s => ls[s]? == some n)).length = (ls.take k).count n
  | 0, _ => rfl
  | k + 1, h => by
    rw [List.range_succ, List.filter_append, List.length_append, filter_range_count ls n k (by omega), List.take_succ_eq_append_getElem (by omega), List.count_append]
    congr 1
    rw [List.filter_cons, List.getElem?_eq_getElem (by omega)]
    by_cases hx : ls[k] = n
    · simp [hx]
    · simp [hx]
theorem syms_length (ls : List Nat) (n : Nat) : (syms ls n).length = ls.count n := by
  have := filter_range_count ls n ls.length (Nat.le_refl _)
  rwa [List.take_length] at this
theorem syms_get {ls : List Nat} {n r s : Nat} (h : (syms ls n)[r]? = some s) : ls[s]? = some n ∧ (ls.take s).count n = r := by
  obtain ⟨h1, h2, h3⟩ := filter_range_get _ _ _ _ h
  have h1 : ls[s]? = some n := by simpa using h1
  exact ⟨h1, by rw [← h3, filter_range_count ls n s (by omega)]⟩
theorem syms_mem {ls : List Nat} {n s : Nat} (h : ls[s]? = some n) : s ∈ syms ls n := by
  obtain ⟨h1, h2⟩ := List.getElem?_eq_some_iff.1 h
  simp [syms, h1, h2]
theorem sorted_mem {ls : List Nat} {n s : Nat} (h : ls[s]? = some n) (h1 : 1 ≤ n) : ∀ m, n ≤ m → s ∈ sorted ls m
  | 0, hm => by omega
  | m + 1, hm => by
    simp only [sorted, List.mem_append]
    by_cases hn : n = m + 1
    · subst hn; exact .inr (syms_mem h)
    · exact .inl (sorted_mem h h1 m (by omega))
theorem countP_step (m : Nat) : ∀ l : List Nat, l.countP (fun x => decide (1 ≤ x ∧ x ≤ m + 1)) = l.countP (fun x => decide (1 ≤ x ∧ x ≤ m)) + l.count (m + 1)
  | [] => rfl
  | x :: l => by
    simp only [List.countP_cons, List.count_cons, countP_step m l]
    by_cases h1 : x = m + 1
    · subst h1
      have h4 : ¬ (m + 1 ≤ m) := by omega
      simp [h4]; omega
    · by_cases h2 : 1 ≤ x ∧ x ≤ m
      · have h3 : 1 ≤ x ∧ x ≤ m + 1 := by omega
        simp [h1, h2, h3]; omega
      · have h3 : ¬ (1 ≤ x ∧ x ≤ m + 1) := by omega
        simp [h1, h2, h3]
/-- How many symbols have a code of at most n bits. -/
theorem sorted_length (ls : List Nat) : ∀ m, (sorted ls m).length = ls.countP (fun x => decide (1 ≤ x ∧ x ≤ m))
  | 0 => by simp only [sorted, List.length_nil]; rw [eq_comm, List.countP_eq_zero]; intro x _; simp; omega
  | m + 1 => by simp only [sorted, List.length_append, sorted_length ls m, syms_length, countP_step]
theorem sorted_le (ls : List Nat) (m : Nat) : (sorted ls m).length ≤ ls.length := by rw [sorted_length]; exact List.countP_le_length
end HuffM

/- Plain facts on bits of a text, the lowest of each byte first. -/
set_option linter.unusedVariables false
namespace BitsM
open Vc
/-- The first n bytes as a number, the first the lowest. -/
def V (s : ByteArray) : Nat → Nat
  | 0 => 0
  | n + 1 => V s n + byt s n * 2 ^ (8 * n)
theorem V_lt (s : ByteArray) : ∀ n, V s n < 2 ^ (8 * n)
  | 0 => by simp [V]
  | n + 1 => by
    have h := V_lt s n
    have hb := byt_lt s n
    have e : 2 ^ (8 * (n + 1)) = 256 * 2 ^ (8 * n) := by rw [Nat.mul_succ, Nat.pow_add]; omega
    have : byt s n * 2 ^ (8 * n) ≤ 255 * 2 ^ (8 * n) := Nat.mul_le_mul_right _ (by omega)
    simp only [V]; omega
/-- What is held: the bits from pos on of the first n bytes. -/
def held (s : ByteArray) (n pos : Nat) : Nat := V s n / 2 ^ pos
theorem held_lt (s : ByteArray) (n pos : Nat) (h : pos ≤ 8 * n) : held s n pos < 2 ^ (8 * n - pos) := by
  unfold held
  rw [Nat.div_lt_iff_lt_mul (Nat.two_pow_pos _), ← Nat.pow_add, Nat.sub_add_cancel h]
  exact V_lt s n
theorem held_succ (s : ByteArray) (n pos : Nat) (h : pos ≤ 8 * n) : held s (n + 1) pos = held s n pos + byt s n * 2 ^ (8 * n - pos) := by
  unfold held
  have e : 2 ^ (8 * n) = 2 ^ (8 * n - pos) * 2 ^ pos := by rw [← Nat.pow_add, Nat.sub_add_cancel h]
  simp only [V]
  rw [e, ← Nat.mul_assoc, Nat.add_mul_div_right _ _ (Nat.two_pow_pos _)]
theorem held_or (s : ByteArray) (n pos : Nat) (h : pos ≤ 8 * n) : held s n pos ||| byt s n * 2 ^ (8 * n - pos) = held s (n + 1) pos := by
  rw [held_succ s n pos h, Nat.or_comm, Nat.mul_comm, Nat.add_comm, ← Nat.two_pow_add_eq_or_of_lt (held_lt s n pos h)]
theorem held_skip (s : ByteArray) (n pos k : Nat) : held s n pos / 2 ^ k = held s n (pos + k) := by
  unfold held; rw [Nat.div_div_eq_div_mul, ← Nat.pow_add]
/-- The next k bits of the whole text, from pos on. -/
def nbits (s : ByteArray) (pos k : Nat) : Nat := V s s.size / 2 ^ pos % 2 ^ k
theorem V_split (s : ByteArray) (n : Nat) : ∀ d, ∃ q, V s (n + d) = V s n + q * 2 ^ (8 * n)
  | 0 => ⟨0, by simp⟩
  | d + 1 => by
    obtain ⟨q, hq⟩ := V_split s n d
    refine ⟨q + byt s (n + d) * 2 ^ (8 * d), ?_⟩
    show V s (n + d) + byt s (n + d) * 2 ^ (8 * (n + d)) = _
    rw [hq, Nat.add_mul, Nat.mul_assoc, ← Nat.pow_add]
    have : 8 * d + 8 * n = 8 * (n + d) := by omega
    rw [this]; omega
theorem held_bits (s : ByteArray) (n pos k : Nat) (hn : n ≤ s.size) (h : pos + k ≤ 8 * n ∨ n = s.size) : held s n pos % 2 ^ k = nbits s pos k := by
  rcases h with h | rfl
  · unfold held nbits
    obtain ⟨q, hq⟩ := V_split s n (s.size - n)
    rw [Nat.add_sub_cancel' hn] at hq
    rw [hq]
    have e : 2 ^ (8 * n) = 2 ^ (8 * n - pos - k) * 2 ^ k * 2 ^ pos := by
      rw [← Nat.pow_add, ← Nat.pow_add]; congr 1; omega
    rw [e, ← Nat.mul_assoc, ← Nat.mul_assoc, Nat.add_mul_div_right _ _ (Nat.two_pow_pos _)]
    rw [Nat.add_mul_mod_self_right]
  · rfl
theorem and_mask (x k : Nat) : x &&& (2 ^ k - 1) = x % 2 ^ k := Nat.and_two_pow_sub_one_eq_mod x k
end BitsM

/- Plain facts on lists of bits, the lowest of each byte first. -/
set_option linter.unusedVariables false
namespace BitsM
open Vc
def num : List Bool → Nat
  | [] => 0
  | b :: r => b.toNat + 2 * num r
theorem num_lt : ∀ l : List Bool, num l < 2 ^ l.length
  | [] => by simp [num]
  | b :: r => by
    have h := num_lt r
    have hb : b.toNat ≤ 1 := Bool.toNat_le b
    simp only [num, List.length_cons, Nat.pow_succ]; omega
theorem num_append : ∀ l r : List Bool, num (l ++ r) = num l + 2 ^ l.length * num r
  | [], r => by simp [num]
  | b :: l, r => by
    simp only [List.cons_append, num, num_append l r, List.length_cons, Nat.pow_succ]
    rw [Nat.mul_add, ← Nat.mul_assoc, Nat.mul_comm 2 (2 ^ l.length)]; omega
theorem num_drop (l : List Bool) (k : Nat) : num (l.drop k) = num l / 2 ^ k := by
  rcases Nat.lt_or_ge l.length k with h | h
  · rw [List.drop_eq_nil_of_le (by omega)]
    have h1 := num_lt l
    have h2 : 2 ^ l.length ≤ 2 ^ k := Nat.pow_le_pow_right (by decide) (by omega)
    rw [Nat.div_eq_of_lt (by omega)]; rfl
  · have h1 := num_append (l.take k) (l.drop k)
    rw [List.take_append_drop] at h1
    have h2 := num_lt (l.take k)
    rw [List.length_take, Nat.min_eq_left h] at h1 h2
    rw [h1, Nat.add_mul_div_left _ _ (Nat.two_pow_pos k), Nat.div_eq_of_lt h2, Nat.zero_add]
theorem num_take (l : List Bool) (k : Nat) : num (l.take k) = num l % 2 ^ k := by
  rcases Nat.lt_or_ge l.length k with h | h
  · rw [List.take_of_length_le (by omega)]
    have h1 := num_lt l
    have h2 : 2 ^ l.length ≤ 2 ^ k := Nat.pow_le_pow_right (by decide) (by omega)
    rw [Nat.mod_eq_of_lt (by omega)]
  · have h1 := num_append (l.take k) (l.drop k)
    rw [List.take_append_drop] at h1
    have h2 := num_lt (l.take k)
    rw [List.length_take, Nat.min_eq_left h] at h1 h2
    rw [h1, Nat.add_mul_mod_self_left, Nat.mod_eq_of_lt h2]
/-- The lowest n bits of x. -/
def lowB : Nat → Nat → List Bool
  | 0, _ => []
  | n + 1, x => (x % 2 == 1) :: lowB n (x / 2)
theorem lowB_length : ∀ n x, (lowB n x).length = n
  | 0, _ => rfl
  | n + 1, x => by simp [lowB, lowB_length n]
theorem num_lowB : ∀ n x, num (lowB n x) = x % 2 ^ n
  | 0, x => by simp [lowB, num, Nat.mod_one]
  | n + 1, x => by
    simp only [lowB, num, num_lowB n (x / 2)]
    rw [Nat.pow_succ', Nat.mod_mul]
    have : (x % 2 == 1).toNat = x % 2 := by rcases Nat.mod_two_eq_zero_or_one x with h | h <;> simp [h]
    omega
theorem lowB_get : ∀ (n x i : Nat), i < n → (lowB n x)[i]? = some (x.testBit i)
  | n + 1, x, 0, _ => by simp [lowB, Nat.testBit_zero]; rfl
  | n + 1, x, i + 1, h => by simp only [lowB, List.getElem?_cons_succ, lowB_get n (x / 2) i (by omega), Nat.testBit_succ]
/-- The bits of a text. -/
def sbits : List UInt8 → List Bool
  | [] => []
  | c :: r => lowB 8 c.toNat ++ sbits r
theorem sbits_length : ∀ l, (sbits l).length = 8 * l.length
  | [] => rfl
  | c :: r => by simp only [sbits, List.length_append, lowB_length, sbits_length r, List.length_cons]; omega
theorem sbits_append : ∀ l r, sbits (l ++ r) = sbits l ++ sbits r
  | [], r => rfl
  | c :: l, r => by simp [sbits, sbits_append l r]
theorem sbits_drop : ∀ (l : List UInt8) (k : Nat), sbits (l.drop k) = (sbits l).drop (8 * k)
  | l, 0 => by simp
  | [], k + 1 => by simp [sbits]
  | c :: l, k + 1 => by
    simp only [List.drop_succ_cons, sbits, sbits_drop l k]
    rw [show 8 * (k + 1) = (lowB 8 c.toNat).length + 8 * k by rw [lowB_length]; omega, ← List.drop_drop, List.drop_left]
theorem num_sbits_take (s : ByteArray) : ∀ n, n ≤ s.size → num (sbits (s.data.toList.take n)) = V s n
  | 0, _ => rfl
  | n + 1, h => by
    have hlt : n < s.data.toList.length := by simp only [Array.length_toList]; exact h
    rw [List.take_succ_eq_append_getElem hlt, sbits_append, num_append, num_sbits_take s n (by omega), sbits_length, List.length_take, Nat.min_eq_left (by omega)]
    have hb : byt s n = (s.data.toList[n]).toNat := by unfold byt; rw [List.getElem?_eq_getElem hlt]; rfl
    simp only [V, sbits, List.append_nil, num_lowB, hb]
    have := (s.data.toList[n]).toNat_lt
    rw [Nat.mod_eq_of_lt (by omega), Nat.mul_comm]
theorem num_sbits (s : ByteArray) : num (sbits s.data.toList) = V s s.size := by
  have := num_sbits_take s s.size (Nat.le_refl _)
  rwa [List.take_of_length_le (by simp)] at this
/-- The next k bits by the list. -/
theorem nbits_list (s : ByteArray) (pos k : Nat) : nbits s pos k = num (((sbits s.data.toList).drop pos).take k) := by
  rw [num_take, num_drop, num_sbits]; rfl
end BitsM

/- Plain facts on codes: bits with the highest first, no code begins another one, what reading comes to. -/
set_option linter.unusedVariables false
namespace HuffM
open BitsM
/-- The number of some bits, the highest first. -/
def hv (l : List Bool) : Nat := num l.reverse
theorem hv_snoc (l : List Bool) (b : Bool) : hv (l ++ [b]) = 2 * hv l + b.toNat := by
  simp only [hv, List.reverse_append, List.reverse_cons, List.reverse_nil, List.nil_append, List.singleton_append, num]; omega
theorem hv_lt (l : List Bool) : hv l < 2 ^ l.length := by have := num_lt l.reverse; rwa [List.length_reverse] at this
theorem hv_take (l : List Bool) {m n : Nat} (hm : m ≤ n) (hn : n ≤ l.length) : hv (l.take m) = hv (l.take n) / 2 ^ (n - m) := by
  have h1 : l.take m = (l.take n).take m := by rw [List.take_take, Nat.min_eq_left hm]
  rw [h1, hv, hv, List.reverse_take, List.length_take, Nat.min_eq_left hn, num_drop]
/-- A symbol's code, bit by bit, the highest first. -/
def cbits (ls : List Nat) (s : Nat) : List Bool := (lowB (ls.getD s 0) (code ls s)).reverse
theorem cbits_length (ls : List Nat) (s : Nat) : (cbits ls s).length = ls.getD s 0 := by simp [cbits, lowB_length]
theorem getD_of {ls : List Nat} {s n : Nat} (h : ls[s]? = some n) : ls.getD s 0 = n := by simp [h]
theorem count_take_lt {ls : List Nat} {s n : Nat} (h : ls[s]? = some n) : (ls.take s).count n < ls.count n := by
  obtain ⟨h1, h2⟩ := List.getElem?_eq_some_iff.1 h
  conv => rhs; rw [← List.take_append_drop s ls]
  rw [List.count_append, List.drop_eq_getElem_cons h1, h2]
  simp
theorem count_take_mono (ls : List Nat) (n : Nat) {s x : Nat} (h : s ≤ x) : (ls.take s).count n ≤ (ls.take x).count n := by
  have : ls.take s = (ls.take x).take s := by rw [List.take_take, Nat.min_eq_left h]
  rw [this]
  exact (List.take_sublist s (ls.take x)).count_le n
theorem count_take_step {ls : List Nat} {s n x : Nat} (h : ls[s]? = some n) (hx : s < x) : (ls.take s).count n < (ls.take x).count n := by
  have h1 := count_take_mono ls n (show s + 1 ≤ x by omega)
  obtain ⟨h2, h3⟩ := List.getElem?_eq_some_iff.1 h
  rw [List.take_succ_eq_append_getElem h2, List.count_append, h3] at h1
  simp at h1; omega
theorem code_lt {ls : List Nat} {s n : Nat} (h : ls[s]? = some n) (h1 : 1 ≤ n) : code ls s < fin ls n := by
  obtain ⟨m, rfl⟩ : ∃ m, n = m + 1 := ⟨n - 1, by omega⟩
  have := count_take_lt h
  rw [code, getD_of h, fin, Nat.add_sub_cancel]; omega
theorem code_ge {ls : List Nat} {s n : Nat} (h : ls[s]? = some n) : 2 * fin ls (n - 1) ≤ code ls s := by
  rw [code, getD_of h]; omega
/-- The codes of greater length stand above. -/
theorem code_above {ls : List Nat} {s n m : Nat} (h : ls[s]? = some n) (h1 : m < n) : fin ls m ≤ code ls s / 2 ^ (n - m) := by
  rw [Nat.le_div_iff_mul_le (Nat.two_pow_pos _)]
  have h2 := fin_double ls m (n - 1 - m)
  rw [show m + (n - 1 - m) = n - 1 by omega] at h2
  have h3 := code_ge h
  have h4 : 2 ^ (n - m) = 2 * 2 ^ (n - 1 - m) := by rw [← Nat.pow_succ']; congr 1; omega
  rw [h4, Nat.mul_comm, Nat.mul_assoc]; omega
/-- Not over-full. -/
def Fits (ls : List Nat) : Prop := fin ls 15 ≤ 32768 ∧ ∀ n ∈ ls, n ≤ 15
theorem Fits.le {ls : List Nat} (h : Fits ls) {n : Nat} (hn : n ≤ 15) : fin ls n ≤ 2 ^ n := by
  rcases Nat.lt_or_ge (2 ^ n) (fin ls n) with h1 | h1
  · have := over_later ls h1 hn
    have := h.1
    omega
  · exact h1
theorem Fits.mem {ls : List Nat} (h : Fits ls) {s n : Nat} (hs : ls[s]? = some n) : n ≤ 15 := h.2 n (List.mem_of_getElem? hs)
theorem hv_cbits {ls : List Nat} (hf : Fits ls) {s n : Nat} (h : ls[s]? = some n) (h1 : 1 ≤ n) : hv (cbits ls s) = code ls s := by
  rw [cbits, hv, List.reverse_reverse, num_lowB, getD_of h]
  have := code_lt h h1
  have := hf.le (hf.mem h)
  exact Nat.mod_eq_of_lt (by omega)
/-- The symbol s, of n bits, stands at the front of b. -/
def At (ls : List Nat) (b : List Bool) (s n : Nat) : Prop := ls[s]? = some n ∧ 1 ≤ n ∧ n ≤ b.length ∧ hv (b.take n) = code ls s
theorem At.one {ls : List Nat} {b : List Bool} {s n x m : Nat} (h : At ls b s n) (h' : At ls b x m) : s = x ∧ n = m := by
  have key : ∀ {s n x m}, At ls b s n → At ls b x m → ¬ m < n := by
    intro s n x m h h' hlt
    have h1 := hv_take b (Nat.le_of_lt hlt) h.2.2.1
    rw [h.2.2.2, h'.2.2.2] at h1
    have h2 := code_above h.1 hlt
    have h3 := code_lt h'.1 h'.2.1
    omega
  have hn : n = m := by have := key h h'; have := key h' h; omega
  subst hn
  refine ⟨?_, rfl⟩
  have h1 : code ls s = code ls x := h.2.2.2.symm.trans h'.2.2.2
  rw [code, code, getD_of h.1, getD_of h'.1] at h1
  rcases Nat.lt_trichotomy s x with h2 | h2 | h2
  · have := count_take_step h.1 h2; omega
  · exact h2
  · have := count_take_step h'.1 h2; omega
/-- The place of a number among the symbols of n bits. -/
theorem syms_code {ls : List Nat} {n k s : Nat} (h : (syms ls n)[k]? = some s) : ls[s]? = some n ∧ code ls s = 2 * fin ls (n - 1) + k := by
  obtain ⟨h1, h2⟩ := syms_get h
  exact ⟨h1, by rw [code, getD_of h1, h2]⟩
theorem sorted_get {ls : List Nat} {n k s : Nat} (hn : 1 ≤ n) (h : (syms ls n)[k]? = some s) : ∀ d, (sorted ls (n + d))[(sorted ls (n - 1)).length + k]? = some s
  | 0 => by
    obtain ⟨m, rfl⟩ : ∃ m, n = m + 1 := ⟨n - 1, by omega⟩
    rw [Nat.add_zero, Nat.add_sub_cancel, sorted, List.getElem?_append_right (by omega), Nat.add_sub_cancel_left]
    exact h
  | d + 1 => by
    have h1 := sorted_get hn h d
    rw [← Nat.add_assoc, sorted, List.getElem?_append_left (List.getElem?_eq_some_iff.1 h1).1]
    exact h1
/-- A row without a gap. -/
def Full (ls : List Nat) : Prop := fin ls 15 = 32768
theorem full_later {ls : List Nat} (hf : Full ls) {n : Nat} (hn : n ≤ 15) (h : ∀ x ∈ ls, x ≤ n) : fin ls n = 2 ^ n := by
  have key : ∀ d, fin ls (n + d) = 2 ^ d * fin ls n := by
    intro d
    induction d with
    | zero => simp
    | succ d ih =>
      have : ls.count (n + d + 1) = 0 := List.count_eq_zero.2 fun hm => by have := h _ hm; omega
      rw [← Nat.add_assoc, fin, ih, this, Nat.pow_succ]
      rw [Nat.mul_comm (2 ^ d) 2, Nat.mul_assoc]; omega
  have h1 := key (15 - n)
  rw [show n + (15 - n) = 15 by omega, hf] at h1
  have h2 : (32768 : Nat) = 2 ^ (15 - n) * 2 ^ n := by rw [← Nat.pow_add, show 15 - n + n = 15 by omega]
  rw [h2] at h1
  exact (Nat.eq_of_mul_eq_mul_left (Nat.two_pow_pos _) h1).symm
/-- A number that is not below the codes of at most n bits, but below those of at most n + d bits if it goes on with noughts, goes on to a longer one's code. -/
theorem ext_at {ls : List Nat} {n x : Nat} (h : fin ls n ≤ x) : ∀ d, x * 2 ^ d < fin ls (n + d) → ∃ s m, ls[s]? = some m ∧ n < m ∧ m ≤ n + d ∧ code ls s / 2 ^ (m - n) = x
  | 0, h1 => by simp only [Nat.pow_zero, Nat.mul_one, Nat.add_zero] at h1; omega
  | d + 1, h1 => by
    by_cases h2 : x * 2 ^ d < fin ls (n + d)
    · obtain ⟨s, m, a, b, c, e⟩ := ext_at h d h2
      exact ⟨s, m, a, b, by omega, e⟩
    · have e2 : fin ls (n + (d + 1)) = 2 * fin ls (n + d) + ls.count (n + d + 1) := rfl
      have e3 : x * 2 ^ (d + 1) = 2 * (x * 2 ^ d) := by rw [Nat.pow_succ, Nat.mul_comm (2 ^ d) 2, ← Nat.mul_assoc, Nat.mul_comm x 2, Nat.mul_assoc]
      have hk : 2 * (x * 2 ^ d) - 2 * fin ls (n + d) < (syms ls (n + d + 1)).length := by rw [syms_length]; omega
      obtain ⟨s, hs⟩ : ∃ s, (syms ls (n + d + 1))[2 * (x * 2 ^ d) - 2 * fin ls (n + d)]? = some s := ⟨_, List.getElem?_eq_getElem hk⟩
      obtain ⟨h3, h4⟩ := syms_code hs
      refine ⟨s, _, h3, by omega, by omega, ?_⟩
      rw [h4, Nat.add_sub_cancel, show n + d + 1 - n = d + 1 by omega]
      have e5 : 2 * fin ls (n + d) + (2 * (x * 2 ^ d) - 2 * fin ls (n + d)) = x * 2 ^ (d + 1) := by omega
      rw [e5, Nat.mul_div_cancel _ (Nat.two_pow_pos _)]
theorem full_ext {ls : List Nat} (hf : Full ls) {n x : Nat} (hn : n ≤ 15) (h : fin ls n ≤ x) (hx : x < 2 ^ n) : ∃ s m, ls[s]? = some m ∧ n < m ∧ m ≤ 15 ∧ code ls s / 2 ^ (m - n) = x := by
  have h1 := ext_at h (15 - n) (by
    rw [show n + (15 - n) = 15 by omega, hf, show (32768 : Nat) = 2 ^ n * 2 ^ (15 - n) by rw [← Nat.pow_add, show n + (15 - n) = 15 by omega]]
    exact Nat.mul_lt_mul_of_pos_right hx (Nat.two_pow_pos _))
  rwa [show n + (15 - n) = 15 by omega] at h1
end HuffM

/- Formulas of 9 Go functions of this seat (written by a program of the author's, vcgen.py), and that each is enough for the call. No condition. -/
set_option linter.unusedVariables false
namespace Go.Proofs.YtlohadencnpdgaaDoor
open Go Vc Go.Proofs
set_option maxRecDepth 100000
/-- (*bitin.Reader).fill -/
def vc_bitin_Reader_fill (x0 : Nat) (x1 : Int) (w : World) (R : Value → World → Prop) : Prop :=
  ∃ I1 : World → Prop, ∃ I2 : World → Nat, (I1 w ∧
   ∀ w3 : World,
   (I1 w3 →
     ∃ n4 : Int, (World.cell? w3 (Addr.mk x0 3 none) = some (Value.int IntKind.i64 n4) ∧
      (((decide (n4 < x1) = true →
         ∃ n5 : Int, (World.cell? w3 (Addr.mk x0 1 none) = some (Value.int IntKind.i64 n5) ∧
          ∃ s6 : ByteArray, (World.cell? w3 (Addr.mk x0 0 none) = some (Value.string s6) ∧
           ∀ w7 : World,
           (Drew w3 w7 →
             (((decide (n5 < (↑(ByteArray.size s6) : Int)) = true →
                ∀ w8 : World,
                (Drew w7 w8 →
                  ∃ n9 : Int, (World.cell? w8 (Addr.mk x0 2 none) = some (Value.int IntKind.u64 n9) ∧
                   ∃ s10 : ByteArray, (World.cell? w8 (Addr.mk x0 0 none) = some (Value.string s10) ∧
                    ∃ n11 : Int, (World.cell? w8 (Addr.mk x0 1 none) = some (Value.int IntKind.i64 n11) ∧
                     ((0 ≤ n11 ∧
                       n11 < (↑(ByteArray.size s10) : Int)) ∧
                      ∃ n12 : Int, (World.cell? w8 (Addr.mk x0 3 none) = some (Value.int IntKind.i64 n12) ∧
                       (0 ≤ n12 ∧
                        (Wr w8 (Addr.mk x0 2 none) ∧
                         ∀ w13 : World,
                         (w13 = World.setCell w8 (Addr.mk x0 2 none) (Value.int IntKind.u64 (IntKind.wrap IntKind.u64 (↑(BitVec.toNat (BitVec.ofInt 64 n9 ||| BitVec.ofInt 64 (IntKind.wrap IntKind.u64 (IntKind.wrap IntKind.u64 (byteAt s10 n11) * 2 ^ min (Int.toNat n12) 64)))) : Int))) →
                           ∃ n14 : Int, (World.cell? w13 (Addr.mk x0 1 none) = some (Value.int IntKind.i64 n14) ∧
                            (Wr w13 (Addr.mk x0 1 none) ∧
                             ∀ w15 : World,
                             (w15 = World.setCell w13 (Addr.mk x0 1 none) (Value.int IntKind.i64 (IntKind.wrap IntKind.i64 (n14 + 1))) →
                               ∃ n16 : Int, (World.cell? w15 (Addr.mk x0 3 none) = some (Value.int IntKind.i64 n16) ∧
                                (Wr w15 (Addr.mk x0 3 none) ∧
                                 ∀ w17 : World,
                                 (w17 = World.setCell w15 (Addr.mk x0 3 none) (Value.int IntKind.i64 (IntKind.wrap IntKind.i64 (n16 + 8))) →
                                   (I1 w17 ∧
                                    I2 w17 < I2 w3)))))))))))))))))) ∧
              (decide (n5 < (↑(ByteArray.size s6) : Int)) = false →
                R (Value.tuple (Array.mk [])) w7))))))) ∧
       (decide (n4 < x1) = false →
         ∀ w18 : World,
         (Drew w3 w18 →
           R (Value.tuple (Array.mk [])) w18))))))
theorem vc_bitin_Reader_fill_ok {x0 : Nat} {x1 : Int} {w : World} {R : Value → World → Prop} {R' : Ending → World → Prop} (h : vc_bitin_Reader_fill x0 x1 w R) (hR : ∀ v w', R v w' → R' (.returned v) w') :
    Calls Tryd.prog 58 #[.pointer (some ⟨x0, 0, none⟩), .int .i64 x1] w R' :=
  calls_of_body (vs := [(.pointer (some ⟨x0, 0, none⟩), true), (.int .i64 x1, false)]) (ty := ty) (ann := ⟨[], [(0, [])], [(0, .quiet), (1, .tail 22)], []⟩) (c := Tryd.f58.body.getD .skip) (by kernel_rfl) Tryd.func58 (by kernel_rfl) (by kernel_rfl) (Eq.mp (by kernel_rfl) h) hR
/-- (*bitin.Reader).Left -/
def vc_bitin_Reader_Left (x0 : Nat) (w : World) (R : Value → World → Prop) : Prop :=
  ∃ s1 : ByteArray, (World.cell? w (Addr.mk x0 0 none) = some (Value.string s1) ∧
   ∃ n2 : Int, (World.cell? w (Addr.mk x0 1 none) = some (Value.int IntKind.i64 n2) ∧
    ∃ n3 : Int, (World.cell? w (Addr.mk x0 3 none) = some (Value.int IntKind.i64 n3) ∧
     ∀ w4 : World,
     (Drew w w4 →
       R (Value.int IntKind.i64 (IntKind.wrap IntKind.i64 (IntKind.wrap IntKind.i64 (8 * IntKind.wrap IntKind.i64 ((↑(ByteArray.size s1) : Int) - n2)) + n3))) w4))))
theorem vc_bitin_Reader_Left_ok {x0 : Nat} {w : World} {R : Value → World → Prop} {R' : Ending → World → Prop} (h : vc_bitin_Reader_Left x0 w R) (hR : ∀ v w', R v w' → R' (.returned v) w') :
    Calls Tryd.prog 49 #[.pointer (some ⟨x0, 0, none⟩)] w R' :=
  calls_of_body (vs := [(.pointer (some ⟨x0, 0, none⟩), true)]) (ty := ty) (ann := ⟨[], [], [(1, .quiet)], []⟩) (c := Tryd.f49.body.getD .skip) (by kernel_rfl) Tryd.func49 (by kernel_rfl) (by kernel_rfl) (Eq.mp (by kernel_rfl) h) hR
/-- (*bitin.Reader).Peek -/
def vc_bitin_Reader_Peek (x0 : Nat) (x1 : Int) (w : World) (R : Value → World → Prop) : Prop :=
  (((decide (x1 < 0) = true →
     R (Value.tuple (Array.mk [Value.int IntKind.u32 0, Value.int IntKind.i64 0])) w)) ∧
   (decide (x1 < 0) = false →
     (((decide (x1 > 32) = true →
        R (Value.tuple (Array.mk [Value.int IntKind.u32 0, Value.int IntKind.i64 0])) w)) ∧
      (decide (x1 > 32) = false →
        Calls Tryd.prog (58 : Nat) (Array.mk [Value.pointer (some (Addr.mk x0 0 none)), Value.int IntKind.i64 x1]) (w) (fun e1 w2 =>
          (e1 = Ending.returned (Value.tuple (Array.mk [])) ∧
           ∃ n3 : Int, (World.cell? w2 (Addr.mk x0 2 none) = some (Value.int IntKind.u64 n3) ∧
            (0 ≤ x1 ∧
             ∃ n4 : Int, (World.cell? w2 (Addr.mk x0 3 none) = some (Value.int IntKind.i64 n4) ∧
              ∀ w5 : World,
              (Drew w2 w5 →
                (R (Value.tuple (Array.mk [Value.int IntKind.u32 (IntKind.wrap IntKind.u32 (IntKind.wrap IntKind.u64 (↑(BitVec.toNat (BitVec.ofInt 64 n3 &&& BitVec.ofInt 64 (IntKind.wrap IntKind.u64 (IntKind.wrap IntKind.u64 (1 * 2 ^ min (Int.toNat x1) 64) - 1)))) : Int))), Value.int IntKind.i64 (if n4 < x1 then n4 else x1)])) w5)))))))))))
theorem vc_bitin_Reader_Peek_ok {x0 : Nat} {x1 : Int} {w : World} {R : Value → World → Prop} {R' : Ending → World → Prop} (h : vc_bitin_Reader_Peek x0 x1 w R) (hR : ∀ v w', R v w' → R' (.returned v) w') :
    Calls Tryd.prog 46 #[.pointer (some ⟨x0, 0, none⟩), .int .i64 x1] w R' :=
  calls_of_body (vs := [(.pointer (some ⟨x0, 0, none⟩), true), (.int .i64 x1, false)]) (ty := ty) (ann := ⟨[], [], [(4, .quiet)], []⟩) (c := Tryd.f46.body.getD .skip) (by kernel_rfl) Tryd.func46 (by kernel_rfl) (by kernel_rfl) (Eq.mp (by kernel_rfl) h) hR
/-- bitin.New -/
def vc_bitin_New (x0 : ByteArray) (x1 : Int) (w : World) (R : Value → World → Prop) : Prop :=
  ∀ w1 : World,
  ((w1 = World.alloc w (Obj.cells (Array.mk [Value.string x0, Value.int IntKind.i64 (if (if (↑(ByteArray.size x0) : Int) < x1 then (↑(ByteArray.size x0) : Int) else x1) > 0 then if (↑(ByteArray.size x0) : Int) < x1 then (↑(ByteArray.size x0) : Int) else x1 else 0), Value.int IntKind.u64 0, Value.int IntKind.i64 0, Value.int IntKind.i64 (if (if (↑(ByteArray.size x0) : Int) < x1 then (↑(ByteArray.size x0) : Int) else x1) > 0 then if (↑(ByteArray.size x0) : Int) < x1 then (↑(ByteArray.size x0) : Int) else x1 else 0)]) 81)) →
    R (Value.pointer (some (Addr.mk (Array.size (World.heap w)) 0 none))) w1)
theorem vc_bitin_New_ok {x0 : ByteArray} {x1 : Int} {w : World} {R : Value → World → Prop} {R' : Ending → World → Prop} (h : vc_bitin_New x0 x1 w R) (hR : ∀ v w', R v w' → R' (.returned v) w') :
    Calls Tryd.prog 31 #[.string x0, .int .i64 x1] w R' :=
  calls_of_body (vs := [(.string x0, false), (.int .i64 x1, false)]) (ty := ty) (ann := ⟨[], [], [], []⟩) (c := Tryd.f31.body.getD .skip) (by kernel_rfl) Tryd.func31 (by kernel_rfl) (by kernel_rfl) (Eq.mp (by kernel_rfl) h) hR
/-- (*bitin.Reader).Bits -/
def vc_bitin_Reader_Bits (x0 : Nat) (x1 : Int) (w : World) (R : Value → World → Prop) : Prop :=
  Calls Tryd.prog (46 : Nat) (Array.mk [Value.pointer (some (Addr.mk x0 0 none)), Value.int IntKind.i64 x1]) (w) (fun e1 w2 =>
    ∃ n3 : Int, ∃ n4 : Int, (e1 = Ending.returned (Value.tuple (Array.mk [Value.int IntKind.u32 n3, Value.int IntKind.i64 n4])) ∧
     Calls Tryd.prog (47 : Nat) (Array.mk [Value.pointer (some (Addr.mk x0 0 none)), Value.int IntKind.i64 x1]) (w2) (fun e5 w6 =>
       ∃ b7 : Bool, (e5 = Ending.returned (Value.bool b7) ∧
        ((((!b7) = true →
           R (Value.tuple (Array.mk [Value.int IntKind.u32 0, Value.bool false])) w6)) ∧
         ((!b7) = false →
           R (Value.tuple (Array.mk [Value.int IntKind.u32 n3, Value.bool true])) w6))))))
theorem vc_bitin_Reader_Bits_ok {x0 : Nat} {x1 : Int} {w : World} {R : Value → World → Prop} {R' : Ending → World → Prop} (h : vc_bitin_Reader_Bits x0 x1 w R) (hR : ∀ v w', R v w' → R' (.returned v) w') :
    Calls Tryd.prog 37 #[.pointer (some ⟨x0, 0, none⟩), .int .i64 x1] w R' :=
  calls_of_body (vs := [(.pointer (some ⟨x0, 0, none⟩), true), (.int .i64 x1, false)]) (ty := ty) (ann := ⟨[], [], [], []⟩) (c := Tryd.f37.body.getD .skip) (by kernel_rfl) Tryd.func37 (by kernel_rfl) (by kernel_rfl) (Eq.mp (by kernel_rfl) h) hR
/-- (*bitin.Reader).Skip -/
def vc_bitin_Reader_Skip (x0 : Nat) (x1 : Int) (w : World) (R : Value → World → Prop) : Prop :=
  (((decide (x1 < 0) = true →
     R (Value.bool false) w)) ∧
   (decide (x1 < 0) = false →
     (((decide (x1 > 32) = true →
        R (Value.bool false) w)) ∧
      (decide (x1 > 32) = false →
        Calls Tryd.prog (58 : Nat) (Array.mk [Value.pointer (some (Addr.mk x0 0 none)), Value.int IntKind.i64 x1]) (w) (fun e1 w2 =>
          (e1 = Ending.returned (Value.tuple (Array.mk [])) ∧
           ∃ n3 : Int, (World.cell? w2 (Addr.mk x0 3 none) = some (Value.int IntKind.i64 n3) ∧
            (((decide (n3 < x1) = true →
               R (Value.bool false) w2)) ∧
             (decide (n3 < x1) = false →
               ∃ n4 : Int, (World.cell? w2 (Addr.mk x0 2 none) = some (Value.int IntKind.u64 n4) ∧
                (0 ≤ x1 ∧
                 (Wr w2 (Addr.mk x0 2 none) ∧
                  ∀ w5 : World,
                  (w5 = World.setCell w2 (Addr.mk x0 2 none) (Value.int IntKind.u64 (Int.fdiv n4 (2 ^ min (Int.toNat x1) 64))) →
                    ∃ n6 : Int, (World.cell? w5 (Addr.mk x0 3 none) = some (Value.int IntKind.i64 n6) ∧
                     (Wr w5 (Addr.mk x0 3 none) ∧
                      ∀ w7 : World,
                      (w7 = World.setCell w5 (Addr.mk x0 3 none) (Value.int IntKind.i64 (IntKind.wrap IntKind.i64 (n6 - x1))) →
                        R (Value.bool true) w7))))))))))))))))
theorem vc_bitin_Reader_Skip_ok {x0 : Nat} {x1 : Int} {w : World} {R : Value → World → Prop} {R' : Ending → World → Prop} (h : vc_bitin_Reader_Skip x0 x1 w R) (hR : ∀ v w', R v w' → R' (.returned v) w') :
    Calls Tryd.prog 47 #[.pointer (some ⟨x0, 0, none⟩), .int .i64 x1] w R' :=
  calls_of_body (vs := [(.pointer (some ⟨x0, 0, none⟩), true), (.int .i64 x1, false)]) (ty := ty) (ann := ⟨[], [], [], []⟩) (c := Tryd.f47.body.getD .skip) (by kernel_rfl) Tryd.func47 (by kernel_rfl) (by kernel_rfl) (Eq.mp (by kernel_rfl) h) hR
/-- (*bitin.Reader).Used -/
def vc_bitin_Reader_Used (x0 : Nat) (w : World) (R : Value → World → Prop) : Prop :=
  ∃ n1 : Int, (World.cell? w (Addr.mk x0 1 none) = some (Value.int IntKind.i64 n1) ∧
   ∃ n2 : Int, (World.cell? w (Addr.mk x0 3 none) = some (Value.int IntKind.i64 n2) ∧
    ((8 : Int) ≠ (0 : Int) ∧
     ∃ n3 : Int, (World.cell? w (Addr.mk x0 4 none) = some (Value.int IntKind.i64 n3) ∧
      ∀ w4 : World,
      (Drew w w4 →
        R (Value.int IntKind.i64 (IntKind.wrap IntKind.i64 (IntKind.wrap IntKind.i64 (n1 - IntKind.wrap IntKind.i64 (Int.tdiv n2 8)) - n3))) w4)))))
theorem vc_bitin_Reader_Used_ok {x0 : Nat} {w : World} {R : Value → World → Prop} {R' : Ending → World → Prop} (h : vc_bitin_Reader_Used x0 w R) (hR : ∀ v w', R v w' → R' (.returned v) w') :
    Calls Tryd.prog 33 #[.pointer (some ⟨x0, 0, none⟩)] w R' :=
  calls_of_body (vs := [(.pointer (some ⟨x0, 0, none⟩), true)]) (ty := ty) (ann := ⟨[], [], [(1, .quiet)], []⟩) (c := Tryd.f33.body.getD .skip) (by kernel_rfl) Tryd.func33 (by kernel_rfl) (by kernel_rfl) (Eq.mp (by kernel_rfl) h) hR
/-- (*bitin.Reader).Align -/
def vc_bitin_Reader_Align (x0 : Nat) (w : World) (R : Value → World → Prop) : Prop :=
  ∃ n1 : Int, (World.cell? w (Addr.mk x0 3 none) = some (Value.int IntKind.i64 n1) ∧
   ((8 : Int) ≠ (0 : Int) ∧
    ∃ n2 : Int, (World.cell? w (Addr.mk x0 2 none) = some (Value.int IntKind.u64 n2) ∧
     (0 ≤ Int.tmod n1 8 ∧
      (Wr w (Addr.mk x0 2 none) ∧
       ∀ w3 : World,
       (w3 = World.setCell w (Addr.mk x0 2 none) (Value.int IntKind.u64 (Int.fdiv n2 (2 ^ min (Int.toNat (Int.tmod n1 8)) 64))) →
         ∃ n4 : Int, (World.cell? w3 (Addr.mk x0 3 none) = some (Value.int IntKind.i64 n4) ∧
          (Wr w3 (Addr.mk x0 3 none) ∧
           ∀ w5 : World,
           (w5 = World.setCell w3 (Addr.mk x0 3 none) (Value.int IntKind.i64 (IntKind.wrap IntKind.i64 (n4 - Int.tmod n1 8))) →
             R (Value.tuple (Array.mk [])) w5)))))))))
theorem vc_bitin_Reader_Align_ok {x0 : Nat} {w : World} {R : Value → World → Prop} {R' : Ending → World → Prop} (h : vc_bitin_Reader_Align x0 w R) (hR : ∀ v w', R v w' → R' (.returned v) w') :
    Calls Tryd.prog 59 #[.pointer (some ⟨x0, 0, none⟩)] w R' :=
  calls_of_body (vs := [(.pointer (some ⟨x0, 0, none⟩), true)]) (ty := ty) (ann := ⟨[], [], [], []⟩) (c := Tryd.f59.body.getD .skip) (by kernel_rfl) Tryd.func59 (by kernel_rfl) (by kernel_rfl) (Eq.mp (by kernel_rfl) h) hR
/-- (*bitin.Reader).Bytes -/
def vc_bitin_Reader_Bytes (x0 : Nat) (x1 : Int) (w : World) (R : Value → World → Prop) : Prop :=
  Calls Tryd.prog (59 : Nat) (Array.mk [Value.pointer (some (Addr.mk x0 0 none))]) (w) (fun e1 w2 =>
    (e1 = Ending.returned (Value.tuple (Array.mk [])) ∧
     ∃ n3 : Int, (World.cell? w2 (Addr.mk x0 1 none) = some (Value.int IntKind.i64 n3) ∧
      ∃ n4 : Int, (World.cell? w2 (Addr.mk x0 3 none) = some (Value.int IntKind.i64 n4) ∧
       ((8 : Int) ≠ (0 : Int) ∧
        ∀ w5 : World,
        (Drew w2 w5 →
          (((decide (x1 < 0) = true →
             R (Value.tuple (Array.mk [Value.string (ByteArray.mk (Array.mk [])), Value.bool false])) w5)) ∧
           (decide (x1 < 0) = false →
             ∃ s6 : ByteArray, (World.cell? w5 (Addr.mk x0 0 none) = some (Value.string s6) ∧
              (((decide (x1 > IntKind.wrap IntKind.i64 ((↑(ByteArray.size s6) : Int) - IntKind.wrap IntKind.i64 (n3 - IntKind.wrap IntKind.i64 (Int.tdiv n4 8)))) = true →
                 R (Value.tuple (Array.mk [Value.string (ByteArray.mk (Array.mk [])), Value.bool false])) w5)) ∧
               (decide (x1 > IntKind.wrap IntKind.i64 ((↑(ByteArray.size s6) : Int) - IntKind.wrap IntKind.i64 (n3 - IntKind.wrap IntKind.i64 (Int.tdiv n4 8)))) = false →
                 (Wr w5 (Addr.mk x0 1 none) ∧
                  ∀ w7 : World,
                  (w7 = World.setCell w5 (Addr.mk x0 1 none) (Value.int IntKind.i64 (IntKind.wrap IntKind.i64 (IntKind.wrap IntKind.i64 (n3 - IntKind.wrap IntKind.i64 (Int.tdiv n4 8)) + x1))) →
                    (Wr w7 (Addr.mk x0 2 none) ∧
                     ∀ w8 : World,
                     (w8 = World.setCell w7 (Addr.mk x0 2 none) (Value.int IntKind.u64 0) →
                       (Wr w8 (Addr.mk x0 3 none) ∧
                        ∀ w9 : World,
                        (w9 = World.setCell w8 (Addr.mk x0 3 none) (Value.int IntKind.i64 0) →
                          ∃ s10 : ByteArray, (World.cell? w9 (Addr.mk x0 0 none) = some (Value.string s10) ∧
                           ((0 ≤ IntKind.wrap IntKind.i64 (n3 - IntKind.wrap IntKind.i64 (Int.tdiv n4 8)) ∧
                             (IntKind.wrap IntKind.i64 (n3 - IntKind.wrap IntKind.i64 (Int.tdiv n4 8)) ≤ IntKind.wrap IntKind.i64 (IntKind.wrap IntKind.i64 (n3 - IntKind.wrap IntKind.i64 (Int.tdiv n4 8)) + x1) ∧
                              IntKind.wrap IntKind.i64 (IntKind.wrap IntKind.i64 (n3 - IntKind.wrap IntKind.i64 (Int.tdiv n4 8)) + x1) ≤ (↑(ByteArray.size s10) : Int))) ∧
                            R (Value.tuple (Array.mk [Value.string (ByteArray.extract s10 (Int.toNat (IntKind.wrap IntKind.i64 (n3 - IntKind.wrap IntKind.i64 (Int.tdiv n4 8)))) (Int.toNat (IntKind.wrap IntKind.i64 (IntKind.wrap IntKind.i64 (n3 - IntKind.wrap IntKind.i64 (Int.tdiv n4 8)) + x1)))), Value.bool true])) w9)))))))))))))))))))
theorem vc_bitin_Reader_Bytes_ok {x0 : Nat} {x1 : Int} {w : World} {R : Value → World → Prop} {R' : Ending → World → Prop} (h : vc_bitin_Reader_Bytes x0 x1 w R) (hR : ∀ v w', R v w' → R' (.returned v) w') :
    Calls Tryd.prog 48 #[.pointer (some ⟨x0, 0, none⟩), .int .i64 x1] w R' :=
  calls_of_body (vs := [(.pointer (some ⟨x0, 0, none⟩), true), (.int .i64 x1, false)]) (ty := ty) (ann := ⟨[], [], [(2, .quiet)], []⟩) (c := Tryd.f48.body.getD .skip) (by kernel_rfl) Tryd.func48 (by kernel_rfl) (by kernel_rfl) (Eq.mp (by kernel_rfl) h) hR
end Go.Proofs.YtlohadencnpdgaaDoor

/- What each method of the bit reader does, for every reader that is in order. Conditions: the text is no longer than a Go string can be, the number of bits is from 0 to 32 where it is asked. -/
set_option linter.unusedVariables false
namespace Go.Proofs.YtlohadencnpdgaaDoor
open Go Vc BitsM Go.Proofs

/-- A reader's block. -/
abbrev RdO (s : ByteArray) (at_ pos : Nat) (from_ : Int) : Obj :=
  .cells #[.string s, .int .i64 at_, .int .u64 (held s at_ pos), .int .i64 ((8 * at_ - pos : Nat) : Int), .int .i64 from_] T_bitin_Reader
structure RdAt (w : World) (b : Nat) (s : ByteArray) (pos : Nat) (from_ : Int) (at_ : Nat) : Prop where
  lo : pos ≤ 8 * at_
  hi : 8 * at_ ≤ pos + 39
  sz : at_ ≤ s.size
  ok : s.size ≤ 140737488351232
  blk : w.heap[b]? = some (RdO s at_ pos from_)
section
variable {w w2 : World} {b : Nat} {s : ByteArray} {pos : Nat} {from_ : Int} {at_ : Nat}
theorem RdAt.c0 (h : RdAt w b s pos from_ at_) : w.cell? ⟨b, 0, none⟩ = some (.string s) := by rw [cell_blk h.blk]; rfl
theorem RdAt.c1 (h : RdAt w b s pos from_ at_) : w.cell? ⟨b, 1, none⟩ = some (.int .i64 at_) := by rw [cell_blk h.blk]; rfl
theorem RdAt.c2 (h : RdAt w b s pos from_ at_) : w.cell? ⟨b, 2, none⟩ = some (.int .u64 (held s at_ pos)) := by rw [cell_blk h.blk]; rfl
theorem RdAt.c3 (h : RdAt w b s pos from_ at_) : w.cell? ⟨b, 3, none⟩ = some (.int .i64 ((8 * at_ - pos : Nat) : Int)) := by rw [cell_blk h.blk]; rfl
theorem RdAt.c4 (h : RdAt w b s pos from_ at_) : w.cell? ⟨b, 4, none⟩ = some (.int .i64 from_) := by rw [cell_blk h.blk]; rfl
theorem RdAt.drew (h : RdAt w b s pos from_ at_) (d : Drew w w2) : RdAt w2 b s pos from_ at_ := ⟨h.lo, h.hi, h.sz, h.ok, by rw [d.heap]; exact h.blk⟩
theorem RdAt.held64 (h : RdAt w b s pos from_ at_) : held s at_ pos < 2 ^ 39 :=
  Nat.lt_of_lt_of_le (held_lt s at_ pos h.lo) (Nat.pow_le_pow_right (by decide) (by have := h.hi; omega))
theorem RdAt.keep (h : RdAt w b s pos from_ at_) {X : Nat → Prop} (hf : Fr X w w2) (hx : ¬ X b) : RdAt w2 b s pos from_ at_ := ⟨h.lo, h.hi, h.sz, h.ok, hf.keep h.blk hx⟩
end

def cellNat (w : World) (a : Addr) : Nat := match w.cell? a with
  | some (.int _ n) => n.toNat
  | _ => 0

theorem fill_or {s : ByteArray} {at_ pos : Nat} (hlo : pos ≤ 8 * at_) (hhi : 8 * at_ ≤ pos + 39) :
    IntKind.u64.wrap (↑((BitVec.ofInt 64 ((held s at_ pos : Nat) : Int) ||| BitVec.ofInt 64 (IntKind.u64.wrap (IntKind.u64.wrap ((byt s at_ : Nat) : Int) * 2 ^ min ((8 * at_ - pos : Nat) : Int).toNat 64))).toNat) : Int) = ((held s (at_ + 1) pos : Nat) : Int) := by
  have hb := byt_lt s at_
  have h1 : held s at_ pos < 2 ^ 64 := Nat.lt_of_lt_of_le (held_lt s at_ pos hlo) (Nat.pow_le_pow_right (by decide) (by omega))
  rw [wrap_u64 (x := ((byt s at_ : Nat) : Int)) (by omega) (by omega)]
  have hm : min ((8 * at_ - pos : Nat) : Int).toNat 64 = 8 * at_ - pos := by simp only [Int.toNat_natCast]; omega
  rw [hm]
  have hp : 2 ^ (8 * at_ - pos) ≤ 2 ^ 39 := Nat.pow_le_pow_right (by decide) (by omega)
  have hx : byt s at_ * 2 ^ (8 * at_ - pos) < 2 ^ 64 := by
    have : byt s at_ * 2 ^ (8 * at_ - pos) ≤ 255 * 2 ^ 39 := Nat.mul_le_mul (by omega) hp
    omega
  have hcast : ((byt s at_ : Nat) : Int) * 2 ^ (8 * at_ - pos) = ((byt s at_ * 2 ^ (8 * at_ - pos) : Nat) : Int) := by push_cast; rfl
  rw [hcast, wrap_u64 (x := ((byt s at_ * 2 ^ (8 * at_ - pos) : Nat) : Int)) (by omega) (by omega), or_nat 64 _ _ h1 hx, held_or s at_ pos hlo]
  have := held_lt s (at_ + 1) pos (by omega)
  have h3 : 2 ^ (8 * (at_ + 1) - pos) ≤ 2 ^ 47 := Nat.pow_le_pow_right (by decide) (by omega)
  exact wrap_u64 (by omega) (by omega)

theorem fill_spec {b : Nat} {s : ByteArray} {pos : Nat} {from_ : Int} {at_ : Nat} {w : World} (h : RdAt w b s pos from_ at_) {n : Int} (h0 : 0 ≤ n) (hn : n ≤ 32) :
    Calls Tryd.prog F_bitin_Reader_fill #[.pointer (some ⟨b, 0, none⟩), .int .i64 n] w fun e w' => e = .returned (.tuple #[]) ∧
      ∃ at1, RdAt w' b s pos from_ at1 ∧ (n ≤ ((8 * at1 - pos : Nat) : Int) ∨ at1 = s.size) ∧ Fr (· = b) w w' := by
  refine vc_bitin_Reader_fill_ok (R := fun v w' => v = .tuple #[] ∧ ∃ at1, RdAt w' b s pos from_ at1 ∧ (n ≤ ((8 * at1 - pos : Nat) : Int) ∨ at1 = s.size) ∧ Fr (· = b) w w') ?_ (fun v w' h => ⟨by rw [h.1], h.2⟩)
  refine ⟨fun wr => ∃ at1, RdAt wr b s pos from_ at1 ∧ Fr (· = b) w wr, fun wr => s.size - cellNat wr ⟨b, 1, none⟩, ⟨at_, h, .refl _ _⟩, ?_⟩
  rintro w3 ⟨at1, h1, hf⟩
  refine ⟨_, h1.c3, fun hlt => ⟨_, h1.c1, _, h1.c0, fun w7 d7 => ⟨fun hl2 w8 d8 => ?_, fun hge => ?_⟩⟩, fun hge w18 d => ⟨rfl, at1, h1.drew d, .inl (by simpa using hge), hf.trans' (.drew _ d)⟩⟩
  · have h8 := (h1.drew d7).drew d8
    have hlt' : ((8 * at1 - pos : Nat) : Int) < n := of_decide_eq_true hlt
    have hl2' : at1 < s.size := by have := of_decide_eq_true hl2; omega
    refine ⟨_, h8.c2, _, h8.c0, _, h8.c1, ⟨by omega, by omega⟩, _, h8.c3, by omega, wr_blk h8.blk (by simp), ?_⟩
    rintro w13 rfl
    have e1 := set_blk h8.blk 2 (.int .u64 ((held s (at1 + 1) pos : Nat) : Int))
    rw [byteAt_nat, fill_or (by have := h1.lo; omega) (by have := h1.lo; omega)]
    refine ⟨((at1 : Nat) : Int), by rw [cell_blk e1]; rfl, wr_blk e1 (by simp), ?_⟩
    rintro w15 rfl
    have hat : IntKind.i64.wrap (((at1 : Nat) : Int) + 1) = ((at1 + 1 : Nat) : Int) := by rw [wrap_i64 (by have := h1.ok; omega) (by have := h1.ok; omega)]; omega
    rw [hat]
    have e2 := set_blk e1 1 (.int .i64 ((at1 + 1 : Nat) : Int))
    refine ⟨((8 * at1 - pos : Nat) : Int), by rw [cell_blk e2]; rfl, wr_blk e2 (by simp), ?_⟩
    rintro w17 rfl
    have hh : IntKind.i64.wrap (((8 * at1 - pos : Nat) : Int) + 8) = ((8 * (at1 + 1) - pos : Nat) : Int) := by
      have := h1.lo; rw [wrap_i64 (by omega) (by omega)]; omega
    rw [hh]
    have e3 := set_blk e2 3 (.int .i64 ((8 * (at1 + 1) - pos : Nat) : Int))
    have hrd : RdAt _ b s pos from_ (at1 + 1) := ⟨by have := h1.lo; omega, by have := h1.lo; omega, by omega, h1.ok, e3⟩
    refine ⟨⟨at1 + 1, hrd, ?_⟩, ?_⟩
    · exact ((((hf.trans' (.drew _ d7)).trans' (.drew _ d8)).trans' (.set _ _ _ rfl)).trans' (.set _ _ _ rfl)).trans' (.set _ _ _ rfl)
    · have c1 := hrd.c1
      have c1' := h1.c1
      simp only [cellNat, c1, c1', Int.toNat_natCast]
      omega
  · have : ¬ at1 < s.size := by have := of_decide_eq_false hge; omega
    exact ⟨rfl, at1, h1.drew d7, .inr (by have := h1.sz; omega), hf.trans' (.drew _ d7)⟩

/-- A reader in order, at bit pos. -/
def Rd (w : World) (b : Nat) (s : ByteArray) (pos : Nat) (from_ : Int) : Prop := ∃ at_, RdAt w b s pos from_ at_
theorem Rd.drew {w w2 : World} {b : Nat} {s : ByteArray} {pos : Nat} {from_ : Int} (h : Rd w b s pos from_) (d : Drew w w2) : Rd w2 b s pos from_ := h.imp fun _ h => h.drew d
theorem Rd.keep {w w2 : World} {b : Nat} {s : ByteArray} {pos : Nat} {from_ : Int} (h : Rd w b s pos from_) {X : Nat → Prop} (hf : Fr X w w2) (hx : ¬ X b) : Rd w2 b s pos from_ := h.imp fun _ h => h.keep hf hx
theorem Rd.pos_le {w : World} {b : Nat} {s : ByteArray} {pos : Nat} {from_ : Int} (h : Rd w b s pos from_) : pos ≤ 8 * s.size := by
  obtain ⟨a, h⟩ := h; have := h.lo; have := h.sz; omega
theorem Rd.lt {w : World} {b : Nat} {s : ByteArray} {pos : Nat} {from_ : Int} (h : Rd w b s pos from_) : b < w.heap.size := by obtain ⟨a, h⟩ := h; exact lt_blk h.blk

/-- How many bits are left. -/
def left (s : ByteArray) (pos : Nat) : Nat := 8 * s.size - pos

theorem left_spec {b : Nat} {s : ByteArray} {pos : Nat} {from_ : Int} {w : World} (h : Rd w b s pos from_) :
    Calls Tryd.prog F_bitin_Reader_Left #[.pointer (some ⟨b, 0, none⟩)] w fun e w' => e = .returned (.int .i64 ((left s pos : Nat) : Int)) ∧ Drew w w' := by
  obtain ⟨a, h⟩ := h
  refine vc_bitin_Reader_Left_ok (R := fun v w' => v = .int .i64 ((left s pos : Nat) : Int) ∧ Drew w w') ?_ (fun v w' h => ⟨by rw [h.1], h.2⟩)
  refine ⟨_, h.c0, _, h.c1, _, h.c3, fun w1 d => ⟨?_, d⟩⟩
  have := h.lo; have := h.hi; have := h.sz; have := h.ok
  have e1 : IntKind.i64.wrap ((s.size : Int) - (a : Int)) = (s.size : Int) - (a : Int) := wrap_i64 (by omega) (by omega)
  rw [e1]
  have e2 : IntKind.i64.wrap (8 * ((s.size : Int) - (a : Int))) = 8 * ((s.size : Int) - (a : Int)) := wrap_i64 (by omega) (by omega)
  rw [e2, wrap_i64 (by omega) (by omega)]
  unfold left
  congr 1; omega

/-- How many bytes have been begun. -/
theorem used_spec {b : Nat} {s : ByteArray} {pos : Nat} {from_ : Int} {w : World} (h : Rd w b s pos from_) (h0 : 0 ≤ from_) (h1 : from_ ≤ 140737488351232) :
    Calls Tryd.prog F_bitin_Reader_Used #[.pointer (some ⟨b, 0, none⟩)] w fun e w' => e = .returned (.int .i64 ((((pos + 7) / 8 : Nat) : Int) - from_)) ∧ Drew w w' := by
  obtain ⟨a, h⟩ := h
  refine vc_bitin_Reader_Used_ok (R := fun v w' => v = .int .i64 ((((pos + 7) / 8 : Nat) : Int) - from_) ∧ Drew w w') ?_ (fun v w' h => ⟨by rw [h.1], h.2⟩)
  refine ⟨_, h.c1, _, h.c3, by decide, _, h.c4, fun w1 d => ⟨?_, d⟩⟩
  have := h.lo; have := h.hi; have := h.sz; have := h.ok
  have e0 : Int.tdiv ((8 * a - pos : Nat) : Int) 8 = ((((8 * a - pos) / 8 : Nat)) : Int) := by
    rw [Int.tdiv_eq_ediv_of_nonneg (by omega)]; omega
  rw [e0, wrap_i64 (x := (((8 * a - pos) / 8 : Nat) : Int)) (by omega) (by omega), wrap_i64 (x := (a : Int) - _) (by omega) (by omega), wrap_i64 (by omega) (by omega)]
  congr 1; omega

theorem mask_eq (n : Nat) (h : n ≤ 32) : IntKind.u64.wrap (IntKind.u64.wrap (1 * 2 ^ min ((n : Int)).toNat 64) - 1) = ((2 ^ n - 1 : Nat) : Int) := by
  have hm : min ((n : Int)).toNat 64 = n := by omega
  have hp : 2 ^ n ≤ 2 ^ 32 := Nat.pow_le_pow_right (by decide) h
  have h1 := Nat.two_pow_pos n
  have hc : (2 : Int) ^ n = ((2 ^ n : Nat) : Int) := by push_cast; rfl
  rw [hm, Int.one_mul, hc, wrap_u64 (x := ((2 ^ n : Nat) : Int)) (by omega) (by omega), wrap_u64 (by omega) (by omega)]
  omega

/-- The next n bits: what they are, and how many there are. -/
theorem peek_spec {b : Nat} {s : ByteArray} {pos : Nat} {from_ : Int} {w : World} (h : Rd w b s pos from_) {n : Nat} (hn : n ≤ 32) :
    Calls Tryd.prog F_bitin_Reader_Peek #[.pointer (some ⟨b, 0, none⟩), .int .i64 n] w fun e w' =>
      e = .returned (.tuple #[.int .u32 ((nbits s pos n : Nat) : Int), .int .i64 ((min n (left s pos) : Nat) : Int)]) ∧ Rd w' b s pos from_ ∧ Fr (· = b) w w' := by
  obtain ⟨a, h⟩ := h
  refine vc_bitin_Reader_Peek_ok (R := fun v w' => v = .tuple #[.int .u32 ((nbits s pos n : Nat) : Int), .int .i64 ((min n (left s pos) : Nat) : Int)] ∧ Rd w' b s pos from_ ∧ Fr (· = b) w w') ?_ (fun v w' h => ⟨by rw [h.1], h.2⟩)
  refine ⟨fun hlt => absurd (of_decide_eq_true hlt) (by omega), fun _ => ⟨fun hgt => absurd (of_decide_eq_true hgt) (by omega), fun _ => ?_⟩⟩
  refine (fill_spec h (by omega) (by omega)).mono ?_
  rintro e w2 ⟨rfl, a1, h1, hc, hf⟩
  refine ⟨rfl, _, h1.c2, by omega, _, h1.c3, fun w5 d => ⟨?_, ⟨a1, h1.drew d⟩, hf.trans' (.drew _ d)⟩⟩
  have := h1.lo; have := h1.hi; have := h1.sz
  have hk := h1.held64
  have hp : 2 ^ n ≤ 2 ^ 32 := Nat.pow_le_pow_right (by decide) hn
  have hb : held s a1 pos % 2 ^ n = nbits s pos n := held_bits s a1 pos n h1.sz (by omega)
  have hl : nbits s pos n < 2 ^ n := Nat.mod_lt _ (Nat.two_pow_pos n)
  rw [mask_eq n hn, and_nat 64 _ _ (by omega) (by omega), and_mask, hb, wrap_u64 (x := ((nbits s pos n : Nat) : Int)) (by omega) (by omega), wrap_u32 (by omega) (by omega)]
  unfold left
  congr 5
  split <;> omega

/-- n bits are taken, if there are so many. -/
theorem skip_spec {b : Nat} {s : ByteArray} {pos : Nat} {from_ : Int} {w : World} (h : Rd w b s pos from_) {n : Nat} (hn : n ≤ 32) :
    Calls Tryd.prog F_bitin_Reader_Skip #[.pointer (some ⟨b, 0, none⟩), .int .i64 n] w fun e w' =>
      e = .returned (.bool (decide (n ≤ left s pos))) ∧ Rd w' b s (if n ≤ left s pos then pos + n else pos) from_ ∧ Fr (· = b) w w' := by
  obtain ⟨a, h⟩ := h
  refine vc_bitin_Reader_Skip_ok (R := fun v w' => v = .bool (decide (n ≤ left s pos)) ∧ Rd w' b s (if n ≤ left s pos then pos + n else pos) from_ ∧ Fr (· = b) w w') ?_ (fun v w' h => ⟨by rw [h.1], h.2⟩)
  refine ⟨fun hlt => absurd (of_decide_eq_true hlt) (by omega), fun _ => ⟨fun hgt => absurd (of_decide_eq_true hgt) (by omega), fun _ => ?_⟩⟩
  refine (fill_spec h (by omega) (by omega)).mono ?_
  rintro e w2 ⟨rfl, a1, h1, hc, hf⟩
  have := h1.lo; have := h1.hi; have := h1.sz
  refine ⟨rfl, _, h1.c3, fun hlt => ?_, fun hge => ?_⟩
  · have hlt := of_decide_eq_true hlt
    have hno : ¬ n ≤ left s pos := by unfold left; omega
    rw [if_neg hno, decide_eq_false hno]
    exact ⟨rfl, ⟨a1, h1⟩, hf⟩
  · have hge := of_decide_eq_false hge
    have hyes : n ≤ left s pos := by unfold left; omega
    rw [if_pos hyes, decide_eq_true hyes]
    refine ⟨_, h1.c2, by omega, wr_blk h1.blk (by simp), ?_⟩
    rintro w5 rfl
    have e0 : Int.fdiv ((held s a1 pos : Nat) : Int) (2 ^ min ((n : Int)).toNat 64) = ((held s a1 (pos + n) : Nat) : Int) := by
      have hm : min ((n : Int)).toNat 64 = n := by omega
      have hc : (2 : Int) ^ n = ((2 ^ n : Nat) : Int) := by push_cast; rfl
      rw [hm, hc, ← held_skip, Int.fdiv_eq_ediv_of_nonneg _ (Int.natCast_nonneg _), ← Int.natCast_ediv]
    rw [e0]
    have b1 := set_blk h1.blk 2 (.int .u64 ((held s a1 (pos + n) : Nat) : Int))
    refine ⟨((8 * a1 - pos : Nat) : Int), by rw [cell_blk b1]; rfl, wr_blk b1 (by simp), ?_⟩
    rintro w7 rfl
    have e1 : IntKind.i64.wrap (((8 * a1 - pos : Nat) : Int) - (n : Int)) = ((8 * a1 - (pos + n) : Nat) : Int) := by rw [wrap_i64 (by omega) (by omega)]; omega
    rw [e1]
    have b2 := set_blk b1 3 (.int .i64 ((8 * a1 - (pos + n) : Nat) : Int))
    exact ⟨rfl, ⟨a1, by omega, by omega, h1.sz, h1.ok, b2⟩, (hf.trans' (.set _ _ _ rfl)).trans' (.set _ _ _ rfl)⟩

/-- The next n bits are taken, if there are so many. -/
theorem rbits_spec {b : Nat} {s : ByteArray} {pos : Nat} {from_ : Int} {w : World} (h : Rd w b s pos from_) {n : Nat} (hn : n ≤ 32) :
    Calls Tryd.prog F_bitin_Reader_Bits #[.pointer (some ⟨b, 0, none⟩), .int .i64 n] w fun e w' =>
      e = .returned (.tuple #[.int .u32 ((if n ≤ left s pos then nbits s pos n else 0 : Nat) : Int), .bool (decide (n ≤ left s pos))]) ∧
      Rd w' b s (if n ≤ left s pos then pos + n else pos) from_ ∧ Fr (· = b) w w' := by
  refine vc_bitin_Reader_Bits_ok (R := fun v w' => v = .tuple #[.int .u32 ((if n ≤ left s pos then nbits s pos n else 0 : Nat) : Int), .bool (decide (n ≤ left s pos))] ∧
      Rd w' b s (if n ≤ left s pos then pos + n else pos) from_ ∧ Fr (· = b) w w') ?_ (fun v w' h => ⟨by rw [h.1], h.2⟩)
  refine (peek_spec h hn).mono ?_
  rintro e w2 ⟨rfl, h2, f2⟩
  refine ⟨_, _, rfl, ?_⟩
  refine (skip_spec h2 hn).mono ?_
  rintro e w6 ⟨rfl, h6, f6⟩
  refine ⟨_, rfl, fun hno => ?_, fun hyes => ?_⟩
  · have hno : ¬ n ≤ left s pos := by simpa using hno
    rw [if_neg hno] at h6
    rw [if_neg hno, if_neg hno, decide_eq_false hno]
    exact ⟨rfl, h6, f2.trans' f6⟩
  · have hyes : n ≤ left s pos := by simpa using hyes
    rw [if_pos hyes] at h6
    rw [if_pos hyes, if_pos hyes, decide_eq_true hyes]
    exact ⟨rfl, h6, f2.trans' f6⟩

/-- A new reader. -/
theorem rnew_spec {s : ByteArray} (hs : s.size ≤ 140737488351232) (n : Int) (w : World) :
    Calls Tryd.prog F_bitin_New #[.string s, .int .i64 n] w fun e w' =>
      e = .returned (.pointer (some ⟨w.heap.size, 0, none⟩)) ∧ Rd w' w.heap.size s (8 * min n.toNat s.size) ((min n.toNat s.size : Nat) : Int) ∧ Fr (fun _ => False) w w' := by
  refine vc_bitin_New_ok (R := fun v w' => v = .pointer (some ⟨w.heap.size, 0, none⟩) ∧ Rd w' w.heap.size s (8 * min n.toNat s.size) ((min n.toNat s.size : Nat) : Int) ∧ Fr (fun _ => False) w w') ?_ (fun v w' h => ⟨by rw [h.1], h.2⟩)
  rintro w1 rfl
  refine ⟨rfl, ⟨min n.toNat s.size, by omega, by omega, by omega, hs, ?_⟩, .alloc _ _ _⟩
  rw [alloc_new]
  have e : (if (if (s.size : Int) < n then (s.size : Int) else n) > 0 then if (s.size : Int) < n then (s.size : Int) else n else 0) = ((min n.toNat s.size : Nat) : Int) := by
    split <;> split at * <;> omega
  have e2 : held s (min n.toNat s.size) (8 * min n.toNat s.size) = 0 := Nat.div_eq_of_lt (V_lt s _)
  rw [e, RdO, e2]
  simp
end Go.Proofs.YtlohadencnpdgaaDoor

/- Formulas of 2 Go functions of this seat (written by a program of the author's, vcgen.py), and that each is enough for the call. No condition. -/
set_option linter.unusedVariables false
namespace Go.Proofs.YtlohadencnpdgaaDoor
open Go Vc Go.Proofs
set_option maxRecDepth 100000
/-- huff.New -/
def vc_huff_New (x0a : Option Addr) (x0n : Nat) (x0c : Nat) (w : World) (R : Value → World → Prop) : Prop :=
  (((decide ((↑x0n : Int) > 320) = true →
     R (Value.tuple (Array.mk [Value.pointer none, Value.int IntKind.i64 2])) w)) ∧
   (decide ((↑x0n : Int) > 320) = false →
     ∃ w1 : World, ∃ l2 : Sl, (Sem.run Tryd.prog (Builtin.append_ (Array.mk [100, 100]) 100 (Array.mk [Value.slice none 0 0, Value.slice x0a x0n x0c])) w = Result.ok (Value.slice l2.1 l2.2 l2.3) w1 ∧
      ∀ w3 : World,
      (w3 = World.alloc w1 (Obj.cells (Array.mk [Value.slice l2.1 l2.2 l2.3, Value.int IntKind.i64 0, Value.int IntKind.i64 0, Value.int IntKind.i64 0, Value.int IntKind.i64 0, Value.int IntKind.i64 0, Value.int IntKind.i64 0, Value.int IntKind.i64 0, Value.int IntKind.i64 0, Value.int IntKind.i64 0, Value.int IntKind.i64 0, Value.int IntKind.i64 0, Value.int IntKind.i64 0, Value.int IntKind.i64 0, Value.int IntKind.i64 0, Value.int IntKind.i64 0, Value.int IntKind.i64 0, Value.slice none 0 0]) 107) →
        ∃ I4 : Int → World → Prop, ∃ I5 : Int → World → Nat, (I4 0 w3 ∧
         ∀ n6 : Int,
         ∀ w7 : World,
         (I4 n6 w7 →
           (((decide (n6 < (↑x0n : Int)) = true →
              ((0 ≤ n6 ∧
                n6 < (↑x0n : Int)) ∧
               ∃ a8 : Addr, (x0a = some a8 ∧
                ∃ n9 : Int, (World.cell? w7 (Addr.add a8 (Int.toNat n6 * 1)) = some (Value.int IntKind.i64 n9) ∧
                 (((decide (n9 < 0) = true →
                    R (Value.tuple (Array.mk [Value.pointer none, Value.int IntKind.i64 1])) w7)) ∧
                  (decide (n9 < 0) = false →
                    (((decide (n9 > 15) = true →
                       R (Value.tuple (Array.mk [Value.pointer none, Value.int IntKind.i64 1])) w7)) ∧
                     (decide (n9 > 15) = false →
                       ∀ w10 : World,
                       (Drew w7 w10 →
                         ((0 ≤ n9 ∧
                           n9 < (↑16 : Int)) ∧
                          ∃ n11 : Int, (World.cell? w10 (Addr.add (Addr.mk (Array.size (World.heap w1)) 1 none) (Int.toNat n9 * 1)) = some (Value.int IntKind.i64 n11) ∧
                           ((0 ≤ n9 ∧
                             n9 < (↑16 : Int)) ∧
                            (Wr w10 (Addr.add (Addr.mk (Array.size (World.heap w1)) 1 none) (Int.toNat n9 * 1)) ∧
                             ∀ w12 : World,
                             (w12 = World.setCell w10 (Addr.add (Addr.mk (Array.size (World.heap w1)) 1 none) (Int.toNat n9 * 1)) (Value.int IntKind.i64 (IntKind.wrap IntKind.i64 (n11 + 1))) →
                               (I4 (IntKind.wrap IntKind.i64 (n6 + 1)) w12 ∧
                                I5 (IntKind.wrap IntKind.i64 (n6 + 1)) w12 < I5 n6 w7)))))))))))))))) ∧
            (decide (n6 < (↑x0n : Int)) = false →
              ∃ I13 : Int → Int → Int → World → Prop, ∃ I14 : Int → Int → Int → World → Nat, (I13 1 0 1 w7 ∧
               ∀ n15 : Int,
               ∀ n16 : Int,
               ∀ n17 : Int,
               ∀ w18 : World,
               (I13 n15 n16 n17 w18 →
                 (((decide (n17 ≤ 15) = true →
                    ((0 ≤ n17 ∧
                      n17 < (↑16 : Int)) ∧
                     ∃ n19 : Int, (World.cell? w18 (Addr.add (Addr.mk (Array.size (World.heap w1)) 1 none) (Int.toNat n17 * 1)) = some (Value.int IntKind.i64 n19) ∧
                      ((0 ≤ n17 ∧
                        n17 < (↑16 : Int)) ∧
                       ∃ n20 : Int, (World.cell? w18 (Addr.add (Addr.mk (Array.size (World.heap w1)) 1 none) (Int.toNat n17 * 1)) = some (Value.int IntKind.i64 n20) ∧
                        (((decide (IntKind.wrap IntKind.i64 (IntKind.wrap IntKind.i64 (2 * n15) - n19) < 0) = true →
                           R (Value.tuple (Array.mk [Value.pointer none, Value.int IntKind.i64 4])) w18)) ∧
                         (decide (IntKind.wrap IntKind.i64 (IntKind.wrap IntKind.i64 (2 * n15) - n19) < 0) = false →
                           ∃ I21 : Int → World → Prop, ∃ I22 : Int → World → Nat, (I21 0 w18 ∧
                            ∀ n23 : Int,
                            ∀ w24 : World,
                            (I21 n23 w24 →
                              (((decide (n23 < (↑x0n : Int)) = true →
                                 ((0 ≤ n23 ∧
                                   n23 < (↑x0n : Int)) ∧
                                  ∃ a25 : Addr, (x0a = some a25 ∧
                                   ∃ n26 : Int, (World.cell? w24 (Addr.add a25 (Int.toNat n23 * 1)) = some (Value.int IntKind.i64 n26) ∧
                                    ((((n26 == n17) = true →
                                       ∃ l27 : Sl, (World.cell? w24 (Addr.mk (Array.size (World.heap w1)) 17 none) = some (Value.slice l27.1 l27.2 l27.3) ∧
                                        ∀ w28 : World,
                                        (w28 = World.alloc w24 (Obj.cells (Array.mk [Value.int IntKind.i64 n23]) 3) →
                                          ∃ w29 : World, ∃ l30 : Sl, (Sem.run Tryd.prog (Builtin.append_ (Array.mk [100, 100]) 100 (Array.mk [Value.slice l27.1 l27.2 l27.3, Value.slice (some (Addr.mk (Array.size (World.heap w24)) 0 none)) 1 1])) w28 = Result.ok (Value.slice l30.1 l30.2 l30.3) w29 ∧
                                           (Wr w29 (Addr.mk (Array.size (World.heap w1)) 17 none) ∧
                                            ∀ w31 : World,
                                            (w31 = World.setCell w29 (Addr.mk (Array.size (World.heap w1)) 17 none) (Value.slice l30.1 l30.2 l30.3) →
                                              (I21 (IntKind.wrap IntKind.i64 (n23 + 1)) w31 ∧
                                               I22 (IntKind.wrap IntKind.i64 (n23 + 1)) w31 < I22 n23 w24)))))))) ∧
                                     ((n26 == n17) = false →
                                       (I21 (IntKind.wrap IntKind.i64 (n23 + 1)) w24 ∧
                                        I22 (IntKind.wrap IntKind.i64 (n23 + 1)) w24 < I22 n23 w24)))))))) ∧
                               (decide (n23 < (↑x0n : Int)) = false →
                                 (I13 (IntKind.wrap IntKind.i64 (IntKind.wrap IntKind.i64 (2 * n15) - n19)) (IntKind.wrap IntKind.i64 (n16 + n20)) (IntKind.wrap IntKind.i64 (n17 + 1)) w24 ∧
                                  I14 (IntKind.wrap IntKind.i64 (IntKind.wrap IntKind.i64 (2 * n15) - n19)) (IntKind.wrap IntKind.i64 (n16 + n20)) (IntKind.wrap IntKind.i64 (n17 + 1)) w24 < I14 n15 n16 n17 w18))))))))))))) ∧
                  (decide (n17 ≤ 15) = false →
                    (((decide (n15 > 0) = true →
                       (((decide (n16 > 0) = true →
                          ((((n16 == 1) = true →
                             (((0 : Int) ≤ (1 : Int) ∧
                               (1 : Int) < (↑(16 : Nat) : Int)) ∧
                              ∃ n32 : Int, (World.cell? w18 (Addr.add (Addr.mk (Array.size (World.heap w1)) 1 none) (Int.toNat 1 * 1)) = some (Value.int IntKind.i64 n32) ∧
                               ((((!n32 == 1) = true →
                                  R (Value.tuple (Array.mk [Value.pointer none, Value.int IntKind.i64 4])) w18)) ∧
                                ((!n32 == 1) = false →
                                  R (Value.tuple (Array.mk [Value.pointer (some (Addr.mk (Array.size (World.heap w1)) 0 none)), Value.int IntKind.i64 0])) w18)))))) ∧
                           ((n16 == 1) = false →
                             R (Value.tuple (Array.mk [Value.pointer none, Value.int IntKind.i64 4])) w18)))) ∧
                        (decide (n16 > 0) = false →
                          R (Value.tuple (Array.mk [Value.pointer (some (Addr.mk (Array.size (World.heap w1)) 0 none)), Value.int IntKind.i64 0])) w18)))) ∧
                     (decide (n15 > 0) = false →
                       R (Value.tuple (Array.mk [Value.pointer (some (Addr.mk (Array.size (World.heap w1)) 0 none)), Value.int IntKind.i64 0])) w18))))))))))))))
theorem vc_huff_New_ok {x0a : Option Addr} {x0n : Nat} {x0c : Nat} {w : World} {R : Value → World → Prop} {R' : Ending → World → Prop} (h : vc_huff_New x0a x0n x0c w R) (hR : ∀ v w', R v w' → R' (.returned v) w') :
    Calls Tryd.prog 50 #[.slice x0a x0n x0c] w R' :=
  calls_of_body (vs := [(.slice x0a x0n x0c, false)]) (ty := ty) (ann := ⟨[], [(5, [(21, .int .i64)]), (13, [(7, .int .i64), (8, .int .i64), (9, .int .i64)]), (20, [(67, .int .i64)])], [(9, .tail 10)], []⟩) (c := Tryd.f50.body.getD .skip) (by kernel_rfl) Tryd.func50 (by kernel_rfl) (by kernel_rfl) (Eq.mp (by kernel_rfl) h) hR
/-- (*huff.Table).Read -/
def vc_huff_Table_Read (x0 : Nat) (x1 : Nat) (w : World) (R : Value → World → Prop) : Prop :=
  ∃ l1 : Sl, (World.cell? w (Addr.mk x0 17 none) = some (Value.slice l1.1 l1.2 l1.3) ∧
   (((((↑l1.2 : Int) == 0) = true →
      R (Value.tuple (Array.mk [Value.int IntKind.i64 0, Value.int IntKind.i64 3])) w)) ∧
    (((↑l1.2 : Int) == 0) = false →
      ∃ I2 : Int → Int → Int → Int → World → Prop, ∃ I3 : Int → Int → Int → Int → World → Nat, (I2 0 0 0 1 w ∧
       ∀ n4 : Int,
       ∀ n5 : Int,
       ∀ n6 : Int,
       ∀ n7 : Int,
       ∀ w8 : World,
       (I2 n4 n5 n6 n7 w8 →
         (((decide (n7 ≤ 15) = true →
            Calls Tryd.prog (37 : Nat) (Array.mk [Value.pointer (some (Addr.mk x1 0 none)), Value.int IntKind.i64 1]) (w8) (fun e9 w10 =>
              ∃ n11 : Int, ∃ b12 : Bool, (e9 = Ending.returned (Value.tuple (Array.mk [Value.int IntKind.u32 n11, Value.bool b12])) ∧
               ((((!b12) = true →
                  R (Value.tuple (Array.mk [Value.int IntKind.i64 0, Value.int IntKind.i64 6])) w10)) ∧
                ((!b12) = false →
                  ((0 : Int) ≤ (1 : Int) ∧
                   ((0 ≤ n7 ∧
                     n7 < (↑16 : Int)) ∧
                    ∃ n13 : Int, (World.cell? w10 (Addr.add (Addr.mk x0 1 none) (Int.toNat n7 * 1)) = some (Value.int IntKind.i64 n13) ∧
                     (((decide (IntKind.wrap IntKind.i64 (IntKind.wrap IntKind.i64 (↑(BitVec.toNat (BitVec.ofInt 64 (IntKind.wrap IntKind.i64 (n4 * 2 ^ min (Int.toNat 1) 64)) ||| BitVec.ofInt 64 (IntKind.wrap IntKind.i64 n11))) : Int) - n5) < n13) = true →
                        ∃ l14 : Sl, (World.cell? w10 (Addr.mk x0 17 none) = some (Value.slice l14.1 l14.2 l14.3) ∧
                         ((0 ≤ IntKind.wrap IntKind.i64 (n6 + IntKind.wrap IntKind.i64 (IntKind.wrap IntKind.i64 (↑(BitVec.toNat (BitVec.ofInt 64 (IntKind.wrap IntKind.i64 (n4 * 2 ^ min (Int.toNat 1) 64)) ||| BitVec.ofInt 64 (IntKind.wrap IntKind.i64 n11))) : Int) - n5)) ∧
                           IntKind.wrap IntKind.i64 (n6 + IntKind.wrap IntKind.i64 (IntKind.wrap IntKind.i64 (↑(BitVec.toNat (BitVec.ofInt 64 (IntKind.wrap IntKind.i64 (n4 * 2 ^ min (Int.toNat 1) 64)) ||| BitVec.ofInt 64 (IntKind.wrap IntKind.i64 n11))) : Int) - n5)) < (↑l14.2 : Int)) ∧
                          ∃ a15 : Addr, (l14.1 = some a15 ∧
                           ∃ n16 : Int, (World.cell? w10 (Addr.add a15 (Int.toNat (IntKind.wrap IntKind.i64 (n6 + IntKind.wrap IntKind.i64 (IntKind.wrap IntKind.i64 (↑(BitVec.toNat (BitVec.ofInt 64 (IntKind.wrap IntKind.i64 (n4 * 2 ^ min (Int.toNat 1) 64)) ||| BitVec.ofInt 64 (IntKind.wrap IntKind.i64 n11))) : Int) - n5))) * 1)) = some (Value.int IntKind.i64 n16) ∧
                            R (Value.tuple (Array.mk [Value.int IntKind.i64 n16, Value.int IntKind.i64 0])) w10)))))) ∧
                      (decide (IntKind.wrap IntKind.i64 (IntKind.wrap IntKind.i64 (↑(BitVec.toNat (BitVec.ofInt 64 (IntKind.wrap IntKind.i64 (n4 * 2 ^ min (Int.toNat 1) 64)) ||| BitVec.ofInt 64 (IntKind.wrap IntKind.i64 n11))) : Int) - n5) < n13) = false →
                        ((0 ≤ n7 ∧
                          n7 < (↑16 : Int)) ∧
                         ∃ n17 : Int, (World.cell? w10 (Addr.add (Addr.mk x0 1 none) (Int.toNat n7 * 1)) = some (Value.int IntKind.i64 n17) ∧
                          ((0 ≤ n7 ∧
                            n7 < (↑16 : Int)) ∧
                           ∃ n18 : Int, (World.cell? w10 (Addr.add (Addr.mk x0 1 none) (Int.toNat n7 * 1)) = some (Value.int IntKind.i64 n18) ∧
                            ((0 : Int) ≤ (1 : Int) ∧
                             ∃ l19 : Sl, (World.cell? w10 (Addr.mk x0 17 none) = some (Value.slice l19.1 l19.2 l19.3) ∧
                              ((((IntKind.wrap IntKind.i64 (n6 + n17) == (↑l19.2 : Int)) = true →
                                 R (Value.tuple (Array.mk [Value.int IntKind.i64 0, Value.int IntKind.i64 3])) w10)) ∧
                               ((IntKind.wrap IntKind.i64 (n6 + n17) == (↑l19.2 : Int)) = false →
                                 (I2 (IntKind.wrap IntKind.i64 (↑(BitVec.toNat (BitVec.ofInt 64 (IntKind.wrap IntKind.i64 (n4 * 2 ^ min (Int.toNat 1) 64)) ||| BitVec.ofInt 64 (IntKind.wrap IntKind.i64 n11))) : Int)) (IntKind.wrap IntKind.i64 (IntKind.wrap IntKind.i64 (n5 + n18) * 2 ^ min (Int.toNat 1) 64)) (IntKind.wrap IntKind.i64 (n6 + n17)) (IntKind.wrap IntKind.i64 (n7 + 1)) w10 ∧
                                  I3 (IntKind.wrap IntKind.i64 (↑(BitVec.toNat (BitVec.ofInt 64 (IntKind.wrap IntKind.i64 (n4 * 2 ^ min (Int.toNat 1) 64)) ||| BitVec.ofInt 64 (IntKind.wrap IntKind.i64 n11))) : Int)) (IntKind.wrap IntKind.i64 (IntKind.wrap IntKind.i64 (n5 + n18) * 2 ^ min (Int.toNat 1) 64)) (IntKind.wrap IntKind.i64 (n6 + n17)) (IntKind.wrap IntKind.i64 (n7 + 1)) w10 < I3 n4 n5 n6 n7 w8)))))))))))))))))))) ∧
          (decide (n7 ≤ 15) = false →
            R (Value.tuple (Array.mk [Value.int IntKind.i64 0, Value.int IntKind.i64 3])) w8)))))))
theorem vc_huff_Table_Read_ok {x0 : Nat} {x1 : Nat} {w : World} {R : Value → World → Prop} {R' : Ending → World → Prop} (h : vc_huff_Table_Read x0 x1 w R) (hR : ∀ v w', R v w' → R' (.returned v) w') :
    Calls Tryd.prog 41 #[.pointer (some ⟨x0, 0, none⟩), .pointer (some ⟨x1, 0, none⟩)] w R' :=
  calls_of_body (vs := [(.pointer (some ⟨x0, 0, none⟩), true), (.pointer (some ⟨x1, 0, none⟩), true)]) (ty := ty) (ann := ⟨[], [(5, [(6, .int .i64), (7, .int .i64), (8, .int .i64), (9, .int .i64)])], [], []⟩) (c := Tryd.f41.body.getD .skip) (by kernel_rfl) Tryd.func41 (by kernel_rfl) (by kernel_rfl) (Eq.mp (by kernel_rfl) h) hR
end Go.Proofs.YtlohadencnpdgaaDoor

/- What New, Code and Read of the package huff do. Conditions: the lists are short enough for a slice to hold; a table and a reader are in order. -/
set_option linter.unusedVariables false
namespace Go.Proofs.YtlohadencnpdgaaDoor
open Go Vc BitsM HuffM Go.Proofs

theorem elInt : El Tryd.prog T_S_int T_int (.int .i64 0) 8 := ⟨by kernel_rfl, by kernel_rfl, rfl⟩
abbrev iv (l : List Int) : List Value := l.map (Value.int .i64)
abbrev nv (l : List Nat) : List Value := l.map (fun x : Nat => Value.int .i64 (x : Int))
theorem iv_nats {zs : List Int} (h : ∀ z ∈ zs, 0 ≤ z) : iv zs = nv (zs.map Int.toNat) := by
  simp only [iv, nv, List.map_map]
  exact List.map_congr_left fun z hz => by simp only [Function.comp_apply]; congr 1; have := h z hz; omega
theorem one_iv (l : List Int) : ∀ u ∈ iv l, u.oneCell' = true := fun u h => by
  obtain ⟨b, _, rfl⟩ := List.mem_map.1 h; rfl

/-- A table's cells. -/
def tcells (l1 : Sl) (c : Nat → Nat) (l2 : Sl) : Array Value :=
  #[.slice l1.a l1.len l1.cap, .int .i64 (c 0), .int .i64 (c 1), .int .i64 (c 2), .int .i64 (c 3), .int .i64 (c 4), .int .i64 (c 5), .int .i64 (c 6), .int .i64 (c 7),
    .int .i64 (c 8), .int .i64 (c 9), .int .i64 (c 10), .int .i64 (c 11), .int .i64 (c 12), .int .i64 (c 13), .int .i64 (c 14), .int .i64 (c 15), .slice l2.a l2.len l2.cap]
theorem tcells_get (l1 : Sl) (c : Nat → Nat) (l2 : Sl) : ∀ n, n < 16 → (tcells l1 c l2)[1 + n]? = some (.int .i64 (c n)) := by
  intro n h
  match n, h with
  | 0, _ | 1, _ | 2, _ | 3, _ | 4, _ | 5, _ | 6, _ | 7, _ | 8, _ | 9, _ | 10, _ | 11, _ | 12, _ | 13, _ | 14, _ | 15, _ => rfl
  | n + 16, h => omega
theorem tcells_set (l1 : Sl) (c : Nat → Nat) (l2 : Sl) (x : Nat) : ∀ n, n < 16 → (tcells l1 c l2).setIfInBounds (1 + n) (.int .i64 x) = tcells l1 (fun m => if m = n then x else c m) l2 := by
  intro n h
  match n, h with
  | 0, _ | 1, _ | 2, _ | 3, _ | 4, _ | 5, _ | 6, _ | 7, _ | 8, _ | 9, _ | 10, _ | 11, _ | 12, _ | 13, _ | 14, _ | 15, _ => rfl
  | n + 16, h => omega
theorem tcells_congr (l1 : Sl) {c d : Nat → Nat} (l2 : Sl) (h : ∀ n, n < 16 → c n = d n) : tcells l1 c l2 = tcells l1 d l2 := by
  simp only [tcells, h 0 (by decide), h 1 (by decide), h 2 (by decide), h 3 (by decide), h 4 (by decide), h 5 (by decide), h 6 (by decide), h 7 (by decide), h 8 (by decide), h 9 (by decide), h 10 (by decide), h 11 (by decide),
    h 12 (by decide), h 13 (by decide), h 14 (by decide), h 15 (by decide)]

/-- A table that is being made. -/
structure TabW (w : World) (lo b : Nat) (l1 : Sl) (zs : List Int) (c : Nat → Nat) (xs : List Nat) (l2 : Sl) : Prop where
  hlo : lo ≤ b
  blk : w.heap[b]? = some (.cells (tcells l1 c l2) T_huff_Table)
  o1 : Vc.Own w lo T_int l1 (iv zs)
  b1 : ∀ x, l1.a = some x → x.block < b
  o2 : Vc.Own w (b + 1) T_int l2 (nv xs)
section
variable {w w2 : World} {lo b : Nat} {l1 : Sl} {zs : List Int} {c : Nat → Nat} {xs : List Nat} {l2 : Sl}
theorem TabW.cnt (h : TabW w lo b l1 zs c xs l2) {n : Nat} (hn : n < 16) : w.cell? (Addr.add ⟨b, 1, none⟩ (n * 1)) = some (.int .i64 (c n)) := by
  rw [add_lit, cell_blk h.blk, Nat.mul_one, tcells_get _ _ _ n hn]
theorem TabW.c0 (h : TabW w lo b l1 zs c xs l2) : w.cell? ⟨b, 0, none⟩ = some (.slice l1.a l1.len l1.cap) := by rw [cell_blk h.blk]; rfl
theorem TabW.c17 (h : TabW w lo b l1 zs c xs l2) : w.cell? ⟨b, 17, none⟩ = some (.slice l2.a l2.len l2.cap) := by rw [cell_blk h.blk]; rfl
theorem TabW.keep (h : TabW w lo b l1 zs c xs l2) {X : Nat → Prop} (hf : Fr X w w2) (hx : ∀ k, lo ≤ k → k < w.heap.size → ¬ X k) : TabW w2 lo b l1 zs c xs l2 :=
  ⟨h.hlo, hf.keep h.blk (hx b h.hlo (lt_blk h.blk)), h.o1.keep hf (fun x hxx => hx _ (h.o1.blk hxx).1 (h.o1.blk hxx).2), h.b1, h.o2.keep hf (fun x hxx => hx _ (by have := (h.o2.blk hxx).1; have := h.hlo; omega) (h.o2.blk hxx).2)⟩
theorem TabW.keep2 (ht : TabW w lo b l1 zs c xs l2) {hi : Nat} (hb : b < hi) (h2 : ∀ x, l2.a = some x → x.block < hi) {X : Nat → Prop} (hf : Fr X w w2) (hx : ∀ k, lo ≤ k → k < hi → ¬ X k) : TabW w2 lo b l1 zs c xs l2 :=
  ⟨ht.hlo, hf.keep ht.blk (hx b ht.hlo hb), ht.o1.keep hf fun x hxx => hx _ (ht.o1.blk hxx).1 (by have := ht.b1 x hxx; omega), ht.b1, ht.o2.keep hf fun x hxx => hx _ (by have := (ht.o2.blk hxx).1; have := ht.hlo; omega) (h2 x hxx)⟩
end

/-- What is said of lengths: nought, or the error. -/
def chk (zs : List Int) : Nat :=
  if 320 < zs.length then 2
  else if ∃ z ∈ zs, z < 0 ∨ 15 < z then 1
  else if 32768 < fin (zs.map Int.toNat) 15 ∨ (fin (zs.map Int.toNat) 15 < 32768 ∧ 0 < (sorted (zs.map Int.toNat) 15).length ∧ ¬ ((sorted (zs.map Int.toNat) 15).length = 1 ∧ (zs.map Int.toNat).count 1 = 1)) then 4
  else 0

/-- A finished table of codes, whose blocks lie from lo up to hi. -/
structure Tab (w : World) (lo hi b : Nat) (ls : List Nat) : Prop where
  fits : Fits ls
  gap : Full ls ∨ (sorted ls 15).length = 0 ∨ ((sorted ls 15).length = 1 ∧ ls.count 1 = 1)
  small : ls.length ≤ 320
  at_ : ∃ l1 l2, TabW w lo b l1 (ls.map Int.ofNat) (fun n => ls.count n) (sorted ls 15) l2 ∧ b < hi ∧ ∀ x, l2.a = some x → x.block < hi
theorem Tab.keep {w w2 : World} {lo hi b : Nat} {ls : List Nat} (h : Tab w lo hi b ls) {X : Nat → Prop} (hf : Fr X w w2) (hx : ∀ k, lo ≤ k → k < hi → ¬ X k) : Tab w2 lo hi b ls := by
  obtain ⟨l1, l2, ht, hb, h2⟩ := h.at_
  exact ⟨h.fits, h.gap, h.small, l1, l2, ht.keep2 hb h2 hf hx, hb, h2⟩
theorem Tab.lt {w : World} {lo hi b : Nat} {ls : List Nat} (h : Tab w lo hi b ls) : lo ≤ b ∧ b < hi := by
  obtain ⟨l1, l2, ht, hb, h2⟩ := h.at_; exact ⟨ht.hlo, hb⟩
theorem Tab.drew {w w2 : World} {lo hi b : Nat} {ls : List Nat} (h : Tab w lo hi b ls) (d : Drew w w2) : Tab w2 lo hi b ls := h.keep (.drew (fun _ => False) d) (by simp)

theorem count_take_step' (ls : List Nat) (n : Nat) {s m : Nat} (h : ls[s]? = some m) : (ls.take (s + 1)).count n = (ls.take s).count n + (if m = n then 1 else 0) := by
  obtain ⟨h2, h3⟩ := List.getElem?_eq_some_iff.1 h
  rw [List.take_succ_eq_append_getElem h2, List.count_append, h3]
  by_cases hm : m = n
  · subst hm; simp
  · simp [hm]
/-- The symbols below s whose codes have n bits. -/
def symsTo (ls : List Nat) (n s : Nat) : List Nat := (List.range s).filter (fun i => ls[i]? == some n)
theorem symsTo_all (ls : List Nat) (n : Nat) : symsTo ls n ls.length = syms ls n := rfl
theorem symsTo_succ (ls : List Nat) (n s m : Nat) (h : ls[s]? = some m) : symsTo ls n (s + 1) = symsTo ls n s ++ (if m = n then [s] else []) := by
  rw [symsTo, symsTo, List.range_succ, List.filter_append]
  congr 1
  by_cases hm : m = n
  · subst hm; simp [h]
  · simp [h, hm]

theorem hnew_spec {a : Option Addr} {zs : List Int} {n c : Nat} {w : World} (hr : Reads w a (iv zs)) (hn : zs.length = n) (ha : ∀ x, a = some x → x.block < w.heap.size) :
    Calls Tryd.prog F_huff_New #[.slice a n c] w fun e w' =>
      ((chk zs ≠ 0 ∧ e = .returned (.tuple #[.pointer none, .int .i64 ((chk zs : Nat) : Int)])) ∨
        (chk zs = 0 ∧ ∃ b, e = .returned (.tuple #[.pointer (some ⟨b, 0, none⟩), .int .i64 0]) ∧ Tab w' w.heap.size w'.heap.size b (zs.map Int.toNat))) ∧ Fr (fun _ => False) w w' := by
  subst hn
  refine vc_huff_New_ok (R := fun v w' => ((chk zs ≠ 0 ∧ v = .tuple #[.pointer none, .int .i64 ((chk zs : Nat) : Int)]) ∨
        (chk zs = 0 ∧ ∃ b, v = .tuple #[.pointer (some ⟨b, 0, none⟩), .int .i64 0] ∧ Tab w' w.heap.size w'.heap.size b (zs.map Int.toNat))) ∧ Fr (fun _ => False) w w') ?_ ?_
  rotate_left
  · rintro v w' ⟨h | h, hf⟩
    · exact ⟨.inl ⟨h.1, by rw [h.2]⟩, hf⟩
    · obtain ⟨h0, b, hv, ht⟩ := h
      exact ⟨.inr ⟨h0, b, by rw [hv], ht⟩, hf⟩
  refine ⟨fun hgt => ?_, fun hle => ?_⟩
  · have hgt := of_decide_eq_true hgt
    have hc : chk zs = 2 := by unfold chk; rw [if_pos (by omega)]
    rw [hc]
    exact ⟨.inl ⟨by decide, rfl⟩, .refl _ _⟩
  have hle := of_decide_eq_false hle
  have hlen : zs.length ≤ 320 := by omega
  obtain ⟨w1, l1, hr1, ho1, hf1⟩ := append_all elInt (Vc.Own.nil w w.heap.size T_int) c hr (one_iv zs) (by simp [maxLen]; omega) (by simp; omega) (Nat.le_refl _) (m := zs.length) (by simp)
  rw [List.nil_append] at ho1
  refine ⟨w1, l1, hr1, ?_⟩
  intro w3 hw3
  have hfw1 : Fr (fun _ => False) w w1 := hf1.mono fun k hk ⟨y, hy, _⟩ => by cases hy
  have hf3 : Fr (fun _ => False) w1 w3 := hw3 ▸ Fr.alloc _ _ _
  have hfw3 := hfw1.trans' hf3
  generalize hB : w1.heap.size = B
  have hblk3 : w3.heap[B]? = some (.cells (tcells l1 (fun n => (([] : List Nat)).count n) ⟨none, 0, 0⟩) T_huff_Table) := by rw [hw3, ← hB]; exact alloc_new _ _
  have hb1 : ∀ x, l1.a = some x → x.block < B := fun x hx => by rw [← hB]; exact (ho1.blk hx).2
  have hloB : w.heap.size ≤ B := by rw [← hB]; exact hfw1.size
  have hat : ∀ {wx : World}, Fr (fun _ => False) w wx → Reads wx a (iv zs) := fun {wx} hf => hr.keep hf (by simp)
  let ls := zs.map Int.toNat
  have hls : ls.length = zs.length := List.length_map ..
  have hget : ∀ {k : Nat}, k < zs.length → ls[k]? = some (zs.getD k 0).toNat := fun {k} hk => by
    simp only [ls, List.getElem?_map, List.getElem?_eq_getElem hk, Option.map_some, List.getD_eq_getElem?_getD, Option.getD_some]
  have hivget : ∀ {k : Nat}, k < zs.length → (iv zs)[k]? = some (.int .i64 (zs.getD k 0)) := fun {k} hk => by
    simp only [iv, List.getElem?_map, List.getElem?_eq_getElem hk, Option.map_some, List.getD_eq_getElem?_getD, Option.getD_some]
  refine ⟨fun i w7 => ∃ k : Nat, k ≤ zs.length ∧ i = (k : Int) ∧ (∀ z ∈ zs.take k, 0 ≤ z ∧ z ≤ 15) ∧ TabW w7 w.heap.size B l1 zs (fun n => (ls.take k).count n) [] ⟨none, 0, 0⟩ ∧ Fr (fun _ => False) w w7, fun i _ => ((zs.length : Int) - i).toNat,
    ⟨0, Nat.zero_le _, rfl, by simp, ⟨hloB, hblk3, ho1.keep hf3 (by simp), hb1, Vc.Own.nil _ _ _⟩, hfw3⟩, ?_⟩
  rintro i w7 ⟨k, hk, rfl, hz, ht, hf⟩
  refine ⟨fun hlt => ?_, fun hge => ?_⟩
  · have hlt := of_decide_eq_true hlt
    have hkl : k < zs.length := by omega
    obtain ⟨x, hx, hcx⟩ := hat hf k _ (hivget hkl)
    have hmem : zs.getD k 0 ∈ zs := by rw [List.getD_eq_getElem?_getD, List.getElem?_eq_getElem hkl]; exact List.getElem_mem hkl
    have hgk := hget hkl
    have htk : zs.take (k + 1) = zs.take k ++ [zs.getD k 0] := by
      rw [List.take_succ_eq_append_getElem hkl, List.getD_eq_getElem?_getD, List.getElem?_eq_getElem hkl]; rfl
    refine ⟨⟨by omega, by omega⟩, x, hx, zs.getD k 0, by rw [Int.toNat_natCast, Nat.mul_one]; exact hcx, ?_⟩
    generalize zs.getD k 0 = z at hmem hgk htk
    have bad : z < 0 ∨ 15 < z → chk zs = 1 := fun h => by
      unfold chk
      rw [if_neg (by omega), if_pos ⟨z, hmem, h⟩]
    refine ⟨fun h => ?_, fun h0 => ⟨fun h => ?_, fun h1 => ?_⟩⟩
    · rw [bad (.inl (of_decide_eq_true h))]; exact ⟨.inl ⟨by decide, rfl⟩, hf⟩
    · rw [bad (.inr (of_decide_eq_true h))]; exact ⟨.inl ⟨by decide, rfl⟩, hf⟩
    have h0 := of_decide_eq_false h0
    have h1 := of_decide_eq_false h1
    intro w10 d10
    have ht10 := ht.keep (.drew (fun _ => False) d10) (by simp)
    obtain ⟨m, rfl⟩ := Int.eq_ofNat_of_zero_le (show 0 ≤ z by omega)
    rw [Int.toNat_natCast] at hgk ⊢
    have hm : m < 16 := by omega
    have hcn := List.count_le_length (a := m) (l := ls.take k)
    have hcl : (ls.take k).length ≤ 320 := by rw [List.length_take]; omega
    refine ⟨⟨by omega, by omega⟩, _, ht10.cnt hm, ⟨by omega, by omega⟩, ?_, ?_⟩
    · rw [add_lit]
      exact wr_blk ht10.blk (by simp [tcells]; omega)
    intro w12 hw12
    have e1 : IntKind.i64.wrap (((ls.take k).count m : Nat) + 1 : Int) = (((ls.take k).count m + 1 : Nat) : Int) := by rw [wrap_i64 (by omega) (by omega)]; omega
    have e2 : IntKind.i64.wrap ((k : Int) + 1) = ((k + 1 : Nat) : Int) := by rw [wrap_i64 (by omega) (by omega)]; omega
    rw [e1, add_lit, Nat.mul_one] at hw12
    have hb12 := set_blk ht10.blk (1 + m) (.int .i64 (((ls.take k).count m + 1 : Nat) : Int))
    rw [← hw12, tcells_set _ _ _ _ m hm] at hb12
    have hf12 : Fr (· = B) w10 w12 := hw12 ▸ Fr.set (· = B) _ (a := ⟨B, 1 + m, none⟩) _ rfl
    rw [e2]
    refine ⟨⟨k + 1, by omega, rfl, ?_, ⟨hloB, ?_, ht10.o1.keep hf12 (fun y hy => by have := hb1 y hy; omega), hb1, Vc.Own.nil _ _ _⟩, (hf.trans' (.drew _ d10)).trans hf12 (fun q hq h => by omega)⟩, by dsimp only; omega⟩
    · intro y hy
      rw [htk, List.mem_append] at hy
      rcases hy with hy | hy
      · exact hz y hy
      · rw [List.mem_singleton] at hy; omega
    · have hc := tcells_congr l1 (c := fun q => if q = m then (ls.take k).count m + 1 else (ls.take k).count q) (d := fun n => (ls.take (k + 1)).count n) ⟨none, 0, 0⟩ (fun q _ => by
        rw [count_take_step' ls q hgk]
        by_cases hq : q = m
        · subst hq; simp
        · rw [if_neg hq, if_neg (fun h => hq h.symm)]; rfl)
      rw [hb12, hc]
  have hge := of_decide_eq_false hge
  have hkk : k = zs.length := by omega
  subst hkk
  rw [List.take_length] at hz
  have htl : ls.take zs.length = ls := List.take_of_length_le (by omega)
  rw [htl] at ht
  have hno : ¬ ∃ z ∈ zs, z < 0 ∨ 15 < z := fun ⟨z, hm, h⟩ => by have := hz z hm; omega
  have h15 : ∀ n ∈ ls, n ≤ 15 := fun n hn => by
    obtain ⟨z, hm, rfl⟩ := List.mem_map.1 hn
    have := hz z hm; omega
  have over : ∀ {m : Nat}, m ≤ 15 → 2 ^ m < fin ls m → chk zs = 4 := fun {m} hm h => by
    have := over_later ls h hm
    unfold chk
    rw [if_neg (by omega), if_neg hno, if_pos (.inl this)]
  have hsl := sorted_le ls
  refine ⟨fun left codes n w' => ∃ (m : Nat) (l2 : Sl), m ≤ 15 ∧ n = (m : Int) + 1 ∧ fin ls m ≤ 2 ^ m ∧ left = ((2 ^ m - fin ls m : Nat) : Int) ∧ codes = (((sorted ls m).length : Nat) : Int) ∧
      TabW w' w.heap.size B l1 zs (fun n => ls.count n) (sorted ls m) l2 ∧ Fr (fun _ => False) w w', fun _ _ n _ => (17 - n).toNat,
    ⟨0, _, Nat.zero_le _, rfl, by simp [fin], by simp [fin], rfl, ht, hf⟩, ?_⟩
  rintro left codes n w18 ⟨m, l2, hm, rfl, hfl, rfl, rfl, ht, hf⟩
  have hp : 2 ^ m ≤ 2 ^ 15 := Nat.pow_le_pow_right (by decide) hm
  have hslm := hsl m
  refine ⟨fun hle => ?_, fun hgt => ?_⟩
  · have hle := of_decide_eq_true hle
    have hm14 : m + 1 ≤ 15 := by omega
    have hp14 : 2 ^ (m + 1) ≤ 2 ^ 15 := Nat.pow_le_pow_right (by decide) hm14
    have hp2 : 2 ^ (m + 1) = 2 * 2 ^ m := Nat.pow_succ'
    have hcnt : ls.count (m + 1) ≤ ls.length := List.count_le_length
    have hfs : fin ls (m + 1) = 2 * fin ls m + ls.count (m + 1) := rfl
    have htn : ((m : Int) + 1).toNat = m + 1 := by omega
    have hss : (sorted ls (m + 1)).length = (sorted ls m).length + ls.count (m + 1) := by rw [sorted, List.length_append, syms_length]
    have hslm1 := hsl (m + 1)
    rw [htn]
    refine ⟨⟨by omega, by omega⟩, _, ht.cnt (by omega), ⟨by omega, by omega⟩, _, ht.cnt (by omega), ?_⟩
    have e1 : IntKind.i64.wrap (IntKind.i64.wrap (2 * ((2 ^ m - fin ls m : Nat) : Int)) - ((ls.count (m + 1) : Nat) : Int)) = (2 ^ (m + 1) : Nat) - (fin ls (m + 1) : Int) := by
      rw [wrap_i64 (x := 2 * _) (by omega) (by omega), wrap_i64 (by omega) (by omega)]; omega
    have e2 : IntKind.i64.wrap ((((sorted ls m).length : Nat) : Int) + ((ls.count (m + 1) : Nat) : Int)) = (((sorted ls (m + 1)).length : Nat) : Int) := by rw [wrap_i64 (by omega) (by omega)]; omega
    have e3 : IntKind.i64.wrap ((m : Int) + 1 + 1) = ((m + 1 : Nat) : Int) + 1 := by rw [wrap_i64 (by omega) (by omega)]; omega
    rw [e1, e2, e3]
    refine ⟨fun h => ?_, fun h => ?_⟩
    · have h := of_decide_eq_true h
      rw [over hm14 (by omega)]
      exact ⟨.inl ⟨by decide, rfl⟩, hf⟩
    have h := of_decide_eq_false h
    refine ⟨fun i w24 => ∃ (k : Nat) (l2 : Sl), k ≤ zs.length ∧ i = (k : Int) ∧ TabW w24 w.heap.size B l1 zs (fun n => ls.count n) (sorted ls m ++ symsTo ls (m + 1) k) l2 ∧ Fr (fun _ => False) w w24, fun i _ => ((zs.length : Int) - i).toNat,
      ⟨0, l2, Nat.zero_le _, rfl, by simpa [symsTo] using ht, hf⟩, ?_⟩
    rintro i w24 ⟨k, l2', hk, rfl, ht24, hf24⟩
    refine ⟨fun hlt => ?_, fun hge => ?_⟩
    · have hlt := of_decide_eq_true hlt
      have hkl : k < zs.length := by omega
      obtain ⟨x, hx, hcx⟩ := hat hf24 k _ (hivget hkl)
      have hgk := hget hkl
      have hmem : zs.getD k 0 ∈ zs := by rw [List.getD_eq_getElem?_getD, List.getElem?_eq_getElem hkl]; exact List.getElem_mem hkl
      have e4 : IntKind.i64.wrap ((k : Int) + 1) = ((k + 1 : Nat) : Int) := by rw [wrap_i64 (by omega) (by omega)]; omega
      have hsk := symsTo_succ ls (m + 1) k _ hgk
      refine ⟨⟨by omega, by omega⟩, x, hx, zs.getD k 0, by rw [Int.toNat_natCast, Nat.mul_one]; exact hcx, ?_⟩
      have hz0 := hz _ hmem
      generalize zs.getD k 0 = z at hsk hz0
      rw [e4]
      refine ⟨fun heq => ?_, fun hne => ?_⟩
      · have heq : z = (m : Int) + 1 := by simpa using heq
        rw [if_pos (by omega)] at hsk
        refine ⟨l2', ht24.c17, ?_⟩
        intro w28 hw28
        have hlenx : (sorted ls m ++ symsTo ls (m + 1) k).length ≤ 640 := by
          have : (symsTo ls (m + 1) k).length ≤ k := by simpa [symsTo] using List.length_filter_le (fun i => ls[i]? == some (m + 1)) (List.range k)
          rw [List.length_append]; omega
        obtain ⟨w29, l30, hr30, ho30, hf30⟩ := append_one elInt ht24.o2 (v := .int .i64 (k : Int)) rfl (by simp only [List.length_map, maxLen]; omega) (by simp only [List.length_map]; omega) (lt_blk ht24.blk) hw28
        have hX : ∀ k, (∃ y, l2'.a = some y ∧ k = y.block) → B + 1 ≤ k := fun k ⟨y, hy, e⟩ => by rw [e]; exact (ht24.o2.blk hy).1
        have hb29 := hf30.keep ht24.blk (fun h => by have := hX _ h; omega)
        refine ⟨w29, l30, hr30, wr_blk hb29 (by simp [tcells]), ?_⟩
        intro w31 hw31
        have hb31 := set_blk hb29 17 (.slice l30.a l30.len l30.cap)
        rw [← hw31] at hb31
        have hf31 : Fr (· = B) w29 w31 := hw31 ▸ Fr.set (· = B) _ (a := ⟨B, 17, none⟩) _ rfl
        refine ⟨⟨k + 1, l30, by omega, rfl, ⟨hloB, hb31, ?_, hb1, ?_⟩, (hf24.trans hf30 (fun q hq hh => by have := hX _ hh; omega)).trans hf31 (fun q hq hh => by omega)⟩, by dsimp only; omega⟩
        · exact (ht24.o1.keep hf30 (fun y hy hh => by have := hX _ hh; have := hb1 y hy; omega)).keep hf31 (fun y hy => by have := hb1 y hy; omega)
        · rw [hsk, ← List.append_assoc]
          have := ho30.keep hf31 (fun y hy => by have := (ho30.blk hy).1; omega)
          simpa [nv] using this
      · have hne : ¬ z = (m : Int) + 1 := by simpa using hne
        rw [if_neg (by omega), List.append_nil] at hsk
        rw [← hsk] at ht24
        exact ⟨⟨k + 1, l2', by omega, rfl, ht24, hf24⟩, by dsimp only; omega⟩
    · have hge := of_decide_eq_false hge
      have : k = zs.length := by omega
      subst this
      rw [← hls, symsTo_all] at ht24
      refine ⟨⟨m + 1, l2', hm14, rfl, by omega, by omega, rfl, ht24, hf24⟩, by dsimp only; omega⟩
  have hgt := of_decide_eq_false hgt
  have hm15 : m = 15 := by omega
  subst hm15
  have hzs : zs = ls.map Int.ofNat := by
    simp only [ls, List.map_map]
    rw [eq_comm]
    exact (List.map_congr_left (g := id) fun z hz' => by have := hz z hz'; simp only [Function.comp_apply, id]; exact Int.toNat_of_nonneg this.1).trans (List.map_id _)
  have good : (fin ls 15 = 32768 ∨ (sorted ls 15).length = 0 ∨ ((sorted ls 15).length = 1 ∧ ls.count 1 = 1)) → chk zs = 0 ∧ Tab w18 w.heap.size w18.heap.size B ls := fun h => by
    refine ⟨?_, ⟨by omega, h15⟩, h, by omega, l1, l2, by rw [← hzs]; exact ht, lt_blk ht.blk, fun x hx => (ht.o2.blk hx).2⟩
    unfold chk
    rw [if_neg (by omega), if_neg hno, if_neg]
    show ¬ (32768 < fin ls 15 ∨ (fin ls 15 < 32768 ∧ 0 < (sorted ls 15).length ∧ ¬ ((sorted ls 15).length = 1 ∧ ls.count 1 = 1)))
    omega
  have bad : fin ls 15 < 32768 → 0 < (sorted ls 15).length → ¬ ((sorted ls 15).length = 1 ∧ ls.count 1 = 1) → chk zs = 4 := fun h1 h2 h3 => by
    unfold chk
    rw [if_neg (by omega), if_neg hno, if_pos (.inr ⟨h1, h2, h3⟩)]
  refine ⟨fun hl => ?_, fun hl => ?_⟩
  · have hl := of_decide_eq_true hl
    refine ⟨fun hc => ?_, fun hc => ?_⟩
    · have hc := of_decide_eq_true hc
      refine ⟨fun h1 => ?_, fun h1 => ?_⟩
      · have h1 : (((sorted ls 15).length : Nat) : Int) = 1 := by simpa using h1
        refine ⟨⟨by decide, by decide⟩, _, ht.cnt (n := 1) (by decide), fun h2 => ?_, fun h2 => ?_⟩
        · have h2 : ¬ ls.count 1 = 1 := by intro h; rw [h] at h2; exact absurd h2 (by decide)
          rw [bad (by omega) (by omega) (by omega)]
          exact ⟨.inl ⟨by decide, rfl⟩, hf⟩
        · have h2 : ls.count 1 = 1 := by
            by_cases h : ls.count 1 = 1
            · exact h
            · exfalso
              have : (((ls.count 1 : Nat) : Int) == 1) = false := by simp; omega
              rw [this] at h2; exact absurd h2 (by decide)
          obtain ⟨g1, g2⟩ := good (by omega)
          exact ⟨.inr ⟨g1, B, rfl, g2⟩, hf⟩
      · have h1 : ¬ (((sorted ls 15).length : Nat) : Int) = 1 := by simpa using h1
        rw [bad (by omega) (by omega) (by omega)]
        exact ⟨.inl ⟨by decide, rfl⟩, hf⟩
    · have hc := of_decide_eq_false hc
      obtain ⟨g1, g2⟩ := good (by omega)
      exact ⟨.inr ⟨g1, B, rfl, g2⟩, hf⟩
  · have hl := of_decide_eq_false hl
    obtain ⟨g1, g2⟩ := good (by omega)
    exact ⟨.inr ⟨g1, B, rfl, g2⟩, hf⟩
end Go.Proofs.YtlohadencnpdgaaDoor

/- What Code and Read of a table of codes do, for every table and reader in order. -/
set_option linter.unusedVariables false
namespace Go.Proofs.YtlohadencnpdgaaDoor
open Go Vc BitsM HuffM Go.Proofs

/-- A symbol's code and length; nought, nought: it has none. -/
def cd (ls : List Nat) (x : Int) : Nat × Nat := if 0 ≤ x ∧ ls.getD x.toNat 0 ≠ 0 then (code ls x.toNat, ls.getD x.toNat 0) else (0, 0)
theorem nv_get {l : List Nat} {k x : Nat} (h : l[k]? = some x) : (nv l)[k]? = some (.int .i64 (x : Int)) := by simp [nv, h]
theorem iv_ofNat (ls : List Nat) : iv (ls.map Int.ofNat) = nv ls := by simp [iv, nv]
theorem sorted_mono (ls : List Nat) (n : Nat) : ∀ d, (sorted ls n).length ≤ (sorted ls (n + d)).length
  | 0 => Nat.le_refl _
  | d + 1 => by rw [← Nat.add_assoc, sorted, List.length_append]; have := sorted_mono ls n d; omega
theorem sorted_lt {ls : List Nat} {z m : Nat} (hz : z ∈ ls) (hm : m < z) (h15 : z ≤ 15) : (sorted ls m).length < (sorted ls 15).length := by
  have h1 := sorted_mono ls m (z - 1 - m)
  have h2 := sorted_mono ls z (15 - z)
  rw [show m + (z - 1 - m) = z - 1 by omega] at h1
  rw [show z + (15 - z) = 15 by omega] at h2
  obtain ⟨q, rfl⟩ : ∃ q, z = q + 1 := ⟨z - 1, by omega⟩
  have h3 : (sorted ls (q + 1)).length = (sorted ls q).length + ls.count (q + 1) := by rw [sorted, List.length_append, syms_length]
  have h4 : 0 < ls.count (q + 1) := List.count_pos_iff.2 hz
  rw [Nat.add_sub_cancel] at h1; omega
theorem sorted_more {ls : List Nat} {m : Nat} (h : (sorted ls m).length < (sorted ls 15).length) : ∃ z ∈ ls, m < z := by
  rw [sorted_length, sorted_length] at h
  apply Classical.byContradiction
  intro hno
  have : ls.countP (fun x => decide (1 ≤ x ∧ x ≤ 15)) ≤ ls.countP (fun x => decide (1 ≤ x ∧ x ≤ m)) := List.countP_mono_left fun x hx hp => by
    have : x ≤ m := Nat.le_of_not_lt fun hl => hno ⟨x, hx, hl⟩
    simp only [decide_eq_true_eq] at hp ⊢; omega
  omega

/-- What reading the bits B comes to: a symbol, or an error; how many bits are taken. -/
def Res (ls : List Nat) (B : List Bool) (x err n : Nat) : Prop :=
  (err = 0 ∧ HuffM.At ls B x n) ∨ (err = 6 ∧ x = 0 ∧ n = B.length ∧ n < 15 ∧ fin ls n ≤ hv B ∧ ∃ z ∈ ls, n < z) ∨ (err = 3 ∧ x = 0 ∧ n ≤ B.length ∧ n ≤ 15 ∧ fin ls n ≤ hv (B.take n) ∧ ∀ z ∈ ls, z ≤ n)
theorem Res.le {ls : List Nat} {B : List Bool} {x err n : Nat} (h : Res ls B x err n) : n ≤ B.length := by
  rcases h with ⟨_, h⟩ | ⟨_, _, h, _⟩ | ⟨_, _, h, _⟩
  · exact h.2.2.1
  · omega
  · exact h

theorem or_bit (c b : Nat) (hb : b ≤ 1) : (2 * c) ||| b = 2 * c + b := by
  have := Nat.two_pow_add_eq_or_of_lt (i := 1) (b := b) (by omega) c
  simpa using this.symm
theorem shl_or {c b : Nat} (hc : c < 32768) (hb : b ≤ 1) :
    IntKind.i64.wrap (↑((BitVec.ofInt 64 (IntKind.i64.wrap ((c : Int) * 2 ^ min (Int.toNat 1) 64)) ||| BitVec.ofInt 64 (IntKind.i64.wrap (b : Int))).toNat) : Int) = ((2 * c + b : Nat) : Int) := by
  have h2 : (2 : Int) ^ min (Int.toNat 1) 64 = 2 := rfl
  have e : ((c : Int) * 2) = ((2 * c : Nat) : Int) := by omega
  rw [h2, e, wrap_i64 (x := ((2 * c : Nat) : Int)) (by omega) (by omega), wrap_i64 (x := (b : Int)) (by omega) (by omega), or_nat 64 _ _ (by omega) (by omega), or_bit c b hb, wrap_i64 (by omega) (by omega)]

theorem hread_spec {w : World} {lo hi b rb : Nat} {ls : List Nat} (h : Tab w lo hi b ls) {s : ByteArray} {pos : Nat} {from_ : Int} (hr : Rd w rb s pos from_) (hrb : rb < lo ∨ hi ≤ rb) :
    Calls Tryd.prog F_huff_Table_Read #[.pointer (some ⟨b, 0, none⟩), .pointer (some ⟨rb, 0, none⟩)] w fun e w' =>
      ∃ x err n, e = .returned (.tuple #[.int .i64 ((x : Nat) : Int), .int .i64 ((err : Nat) : Int)]) ∧ Res ls ((sbits s.data.toList).drop pos) x err n ∧ Rd w' rb s (pos + n) from_ ∧ Fr (· = rb) w w' := by
  obtain ⟨l1, l2, ht, hb, hh⟩ := h.at_
  have hfits := h.fits
  have hls := h.small
  refine vc_huff_Table_Read_ok (R := fun v w' => ∃ x err n, v = .tuple #[.int .i64 ((x : Nat) : Int), .int .i64 ((err : Nat) : Int)] ∧ Res ls ((sbits s.data.toList).drop pos) x err n ∧ Rd w' rb s (pos + n) from_ ∧ Fr (· = rb) w w') ?_
    (fun v w' ⟨x, err, n, h⟩ => ⟨x, err, n, by rw [h.1], h.2⟩)
  have hlen2 : l2.len = (sorted ls 15).length := by rw [ht.o2.len, List.length_map]
  have hsl := sorted_le ls
  have hBlen : ((sbits s.data.toList).drop pos).length = left s pos := by
    rw [List.length_drop, sbits_length]; unfold left; simp
  generalize hBd : (sbits s.data.toList).drop pos = B at hBlen
  refine ⟨l2, ht.c17, fun h0 => ?_, fun h0 => ?_⟩
  · have h0 : l2.len = 0 := by have : (l2.len : Int) = 0 := by simpa using h0
                               omega
    refine ⟨0, 3, 0, rfl, .inr (.inr ⟨rfl, rfl, Nat.zero_le _, by decide, by simp [fin], fun z hz => ?_⟩), hr, .refl _ _⟩
    rcases Nat.eq_zero_or_pos z with h | h
    · omega
    · have := sorted_lt hz (m := z - 1) (by omega) (hfits.2 z hz); omega
  have h0 : ¬ l2.len = 0 := fun h => by simp [h] at h0
  refine ⟨fun cde first at_ n w' => ∃ m : Nat, n = (m : Int) + 1 ∧ m ≤ B.length ∧ m ≤ 15 ∧ cde = ((hv (B.take m) : Nat) : Int) ∧ first = ((2 * fin ls m : Nat) : Int) ∧ at_ = (((sorted ls m).length : Nat) : Int) ∧
      fin ls m ≤ hv (B.take m) ∧ (sorted ls m).length < (sorted ls 15).length ∧ Rd w' rb s (pos + m) from_ ∧ Fr (· = rb) w w', fun _ _ _ n _ => (17 - n).toNat,
    ⟨0, rfl, Nat.zero_le _, by decide, rfl, rfl, rfl, by simp [fin], (by show 0 < (sorted ls 15).length; omega), hr, .refl _ _⟩, ?_⟩
  rintro cde first at_ n w8 ⟨m, rfl, hmB, hm15, rfl, rfl, rfl, hge, hmore, hr8, hf8⟩
  have hm14 : m < 15 := by
    rcases Nat.lt_or_ge m 15 with h | h
    · exact h
    · have : m = 15 := by omega
      subst this; omega
  refine ⟨fun _ => ?_, fun hgt => absurd (of_decide_eq_false hgt) (by omega)⟩
  refine (rbits_spec hr8 (n := 1) (by decide)).mono ?_
  rintro e w10 ⟨rfl, hr10, hf10⟩
  have ht10 := ht.keep2 hb hh (hf8.trans' hf10) (fun k h1 h2 h3 => by omega)
  have hlp : left s (pos + m) = B.length - m := by rw [hBlen]; unfold left; omega
  refine ⟨_, _, rfl, fun hno => ?_, fun hyes => ?_⟩
  · have hno : ¬ 1 ≤ left s (pos + m) := by simpa using hno
    rw [if_neg hno] at hr10
    have hmB : m = B.length := by omega
    refine ⟨0, 6, m, rfl, .inr (.inl ⟨rfl, rfl, hmB, hm14, ?_, sorted_more hmore⟩), hr10, hf8.trans' hf10⟩
    subst hmB; rwa [List.take_length] at hge
  have hyes : 1 ≤ left s (pos + m) := by simpa using hyes
  rw [if_pos hyes] at hr10
  have hmlt : m < B.length := by omega
  have hbit : nbits s (pos + m) 1 = B[m].toNat := by
    rw [nbits_list, ← List.drop_drop, hBd, List.drop_eq_getElem_cons hmlt]
    cases B[m] <;> rfl
  have htk : B.take (m + 1) = B.take m ++ [B[m]] := List.take_succ_eq_append_getElem hmlt
  have hhv : hv (B.take (m + 1)) = 2 * hv (B.take m) + B[m].toNat := by rw [htk, hv_snoc]
  have hb1 : B[m].toNat ≤ 1 := Bool.toNat_le _
  have hvl := hv_lt (B.take m)
  have hp : 2 ^ (B.take m).length ≤ 2 ^ 14 := Nat.pow_le_pow_right (by decide) (by rw [List.length_take]; omega)
  have hfle : fin ls (m + 1) ≤ 32768 := by
    have := hfits.le (n := m + 1) (by omega)
    have : 2 ^ (m + 1) ≤ 2 ^ 15 := Nat.pow_le_pow_right (by decide) (by omega)
    omega
  have hfs : fin ls (m + 1) = 2 * fin ls m + ls.count (m + 1) := rfl
  have hss : (sorted ls (m + 1)).length = (sorted ls m).length + ls.count (m + 1) := by rw [sorted, List.length_append, syms_length]
  have hs1 := hsl (m + 1)
  have htn : ((m : Int) + 1).toNat = m + 1 := by omega
  rw [if_pos hyes, hbit, shl_or (by omega) hb1, ← hhv, htn]
  generalize hC : hv (B.take (m + 1)) = C at hhv
  have e1 : IntKind.i64.wrap ((C : Int) - ((2 * fin ls m : Nat) : Int)) = ((C - 2 * fin ls m : Nat) : Int) := by rw [wrap_i64 (by omega) (by omega)]; omega
  rw [e1]
  refine ⟨by decide, ⟨by omega, by omega⟩, _, ht10.cnt (by omega), fun hlt => ?_, fun hge2 => ?_⟩
  · have hlt := of_decide_eq_true hlt
    have hk' : C - 2 * fin ls m < (syms ls (m + 1)).length := by rw [syms_length]; omega
    have hsy := List.getElem?_eq_getElem hk'
    generalize (syms ls (m + 1))[C - 2 * fin ls m] = x at hsy
    obtain ⟨hs1', hs2⟩ := syms_code hsy
    have hso := sorted_get (by omega) hsy (15 - (m + 1))
    rw [show m + 1 + (15 - (m + 1)) = 15 by omega, Nat.add_sub_cancel] at hso
    obtain ⟨z, hz, hcz⟩ := ht10.o2.reads _ _ (nv_get hso)
    have hso15 := (List.getElem?_eq_some_iff.1 hso).1
    have hsz := hsl 15
    have e2 : IntKind.i64.wrap ((((sorted ls m).length : Nat) : Int) + ((C - 2 * fin ls m : Nat) : Int)) = (((sorted ls m).length + (C - 2 * fin ls m) : Nat) : Int) := by rw [wrap_i64 (by omega) (by omega)]; omega
    rw [e2]
    refine ⟨l2, ht10.c17, ⟨by omega, by omega⟩, z, hz, _, by rw [Int.toNat_natCast, Nat.mul_one]; exact hcz, x, 0, m + 1, rfl, .inl ⟨rfl, hs1', by omega, by omega, ?_⟩, hr10, hf8.trans' hf10⟩
    rw [hC, hs2, Nat.add_sub_cancel]; omega
  · have hge2 := of_decide_eq_false hge2
    have e2 : IntKind.i64.wrap ((((sorted ls m).length : Nat) : Int) + ((ls.count (m + 1) : Nat) : Int)) = (((sorted ls (m + 1)).length : Nat) : Int) := by rw [wrap_i64 (by omega) (by omega)]; omega
    have h2 : (2 : Int) ^ min (Int.toNat 1) 64 = 2 := rfl
    have e3 : IntKind.i64.wrap (IntKind.i64.wrap (((2 * fin ls m : Nat) : Int) + ((ls.count (m + 1) : Nat) : Int)) * 2 ^ min (Int.toNat 1) 64) = ((2 * fin ls (m + 1) : Nat) : Int) := by
      rw [h2, wrap_i64 (x := _ + _) (by omega) (by omega), wrap_i64 (by omega) (by omega)]; omega
    have e4 : IntKind.i64.wrap ((m : Int) + 1 + 1) = ((m + 1 : Nat) : Int) + 1 := by rw [wrap_i64 (by omega) (by omega)]; omega
    have hge' : fin ls (m + 1) ≤ hv (B.take (m + 1)) := by rw [hC]; omega
    refine ⟨⟨by omega, by omega⟩, _, ht10.cnt (by omega), ⟨by omega, by omega⟩, _, ht10.cnt (by omega), by decide, l2, ht10.c17, ?_⟩
    rw [e2, e3, e4]
    refine ⟨fun heq => ?_, fun hne => ?_⟩
    · have heq : (((sorted ls (m + 1)).length : Nat) : Int) = (l2.len : Int) := by simpa using heq
      refine ⟨0, 3, m + 1, rfl, .inr (.inr ⟨rfl, rfl, by omega, by omega, hge', fun z hz => ?_⟩), hr10, hf8.trans' hf10⟩
      rcases Nat.lt_or_ge (m + 1) z with h | h
      · have := sorted_lt hz h (hfits.2 z hz); omega
      · exact h
    · have hne : ¬ (((sorted ls (m + 1)).length : Nat) : Int) = (l2.len : Int) := by simpa using hne
      have hmono := sorted_mono ls (m + 1) (15 - (m + 1))
      rw [show m + 1 + (15 - (m + 1)) = 15 by omega] at hmono
      exact ⟨⟨m + 1, rfl, by omega, by omega, by rw [hC], rfl, rfl, hge', by omega, hr10, hf8.trans' hf10⟩, by dsimp only; omega⟩
end Go.Proofs.YtlohadencnpdgaaDoor

/- Plain facts on bits put into bytes. -/
set_option linter.unusedVariables false
namespace BitsM
open Vc
/-- Byte number i of a list of bits. -/
def byteOf (l : List Bool) (i : Nat) : UInt8 := UInt8.ofNat (num ((l.drop (8 * i)).take 8))
theorem byteOf_nat (l : List Bool) (i : Nat) : (byteOf l i).toNat = num ((l.drop (8 * i)).take 8) := by
  unfold byteOf
  have h := num_lt ((l.drop (8 * i)).take 8)
  have : 2 ^ ((l.drop (8 * i)).take 8).length ≤ 2 ^ 8 := Nat.pow_le_pow_right (by decide) (List.length_take_le _ _)
  rw [UInt8.toNat_ofNat_of_lt']
  exact Nat.lt_of_lt_of_le h this
/-- The first k bytes. -/
def bytesOf (l : List Bool) (k : Nat) : List UInt8 := (List.range k).map (byteOf l)
theorem bytesOf_length (l : List Bool) (k : Nat) : (bytesOf l k).length = k := by simp [bytesOf]
theorem bytesOf_succ (l : List Bool) (k : Nat) : bytesOf l (k + 1) = bytesOf l k ++ [byteOf l k] := by simp [bytesOf, List.range_succ]
theorem byteOf_append (l r : List Bool) (i : Nat) (h : 8 * (i + 1) ≤ l.length) : byteOf (l ++ r) i = byteOf l i := by
  unfold byteOf
  rw [List.drop_append_of_le_length (by omega), List.take_append_of_le_length (by rw [List.length_drop]; omega)]
theorem bytesOf_append (l r : List Bool) (k : Nat) (h : 8 * k ≤ l.length) : bytesOf (l ++ r) k = bytesOf l k := by
  unfold bytesOf
  apply List.map_congr_left
  intro i hi
  have := List.mem_range.1 hi
  exact byteOf_append l r i (by omega)
/-- All the bytes, the last one filled with noughts. -/
def textOf (l : List Bool) : List UInt8 := bytesOf l ((l.length + 7) / 8)
theorem textOf_length (l : List Bool) : (textOf l).length = (l.length + 7) / 8 := bytesOf_length _ _
/-- The bits of the bytes are the bits, and noughts. -/
def fill8 (l : List Bool) : List Bool := l ++ List.replicate (8 * ((l.length + 7) / 8) - l.length) false
theorem num_replicate : ∀ n, num (List.replicate n false) = 0
  | 0 => rfl
  | n + 1 => by simp [List.replicate_succ, num, num_replicate n]
theorem byteOf_fill (l : List Bool) (i : Nat) : byteOf (fill8 l) i = byteOf l i := by
  have : num (((fill8 l).drop (8 * i)).take 8) = num ((l.drop (8 * i)).take 8) := by
    rw [num_take, num_take, num_drop, num_drop]
    unfold fill8
    rw [num_append, num_replicate]; simp
  unfold byteOf; rw [this]
theorem lowB_num : ∀ (l : List Bool), lowB l.length (num l) = l
  | [] => rfl
  | b :: r => by
    simp only [List.length_cons, lowB, num]
    have h1 : (b.toNat + 2 * num r) % 2 = b.toNat := by have := Bool.toNat_le b; omega
    have h2 : (b.toNat + 2 * num r) / 2 = num r := by have := Bool.toNat_le b; omega
    rw [h1, h2, lowB_num r]
    cases b <;> rfl
theorem sbits_bytesOf (l : List Bool) : ∀ k, 8 * k ≤ l.length → sbits (bytesOf l k) = l.take (8 * k)
  | 0, _ => rfl
  | k + 1, h => by
    rw [bytesOf_succ, sbits_append, sbits_bytesOf l k (by omega)]
    simp only [sbits, List.append_nil, byteOf_nat]
    have hl : ((l.drop (8 * k)).take 8).length = 8 := by simp; omega
    have := lowB_num ((l.drop (8 * k)).take 8)
    rw [hl] at this
    rw [this, show 8 * (k + 1) = 8 * k + 8 by omega, List.take_add]
theorem sbits_textOf (l : List Bool) : sbits (textOf l) = fill8 l := by
  have hl : (fill8 l).length = 8 * ((l.length + 7) / 8) := by unfold fill8; simp; omega
  have h1 : textOf l = bytesOf (fill8 l) ((l.length + 7) / 8) := by
    unfold textOf bytesOf
    apply List.map_congr_left
    intro i _
    exact (byteOf_fill l i).symm
  rw [h1, sbits_bytesOf _ _ (by omega), ← hl, List.take_length]
theorem textOf_false (l : List Bool) : textOf (l ++ [false]) = if l.length % 8 = 0 then textOf l ++ [0] else textOf l := by
  have hb : ∀ i, byteOf (l ++ [false]) i = byteOf l i := fun i => by
    have : num (((l ++ [false]).drop (8 * i)).take 8) = num ((l.drop (8 * i)).take 8) := by
      rw [num_take, num_take, num_drop, num_drop, num_append]; simp [num]
    unfold byteOf; rw [this]
  have hm : ∀ k, bytesOf (l ++ [false]) k = bytesOf l k := fun k => by
    unfold bytesOf; exact List.map_congr_left fun i _ => hb i
  unfold textOf
  rw [hm, List.length_append, List.length_singleton]
  split
  · rename_i h
    rw [show (l.length + 1 + 7) / 8 = (l.length + 7) / 8 + 1 by omega, bytesOf_succ]
    have : byteOf l ((l.length + 7) / 8) = 0 := by
      unfold byteOf
      rw [List.drop_eq_nil_of_le (by omega)]; rfl
    rw [this]
  · rename_i h
    rw [show (l.length + 1 + 7) / 8 = (l.length + 7) / 8 by omega]
theorem textOf_true (l : List Bool) : ∃ x : UInt8, (textOf (l ++ [false]))[l.length / 8]? = some x ∧ x.toNat + 2 ^ (l.length % 8) < 256 ∧
    textOf (l ++ [true]) = (textOf (l ++ [false])).set (l.length / 8) (UInt8.ofNat (x.toNat + 2 ^ (l.length % 8))) := by
  have h1 : ∀ b, num (((l ++ [b]).drop (8 * (l.length / 8))).take 8) = num (l.drop (8 * (l.length / 8))) + 2 ^ (l.length % 8) * b.toNat := fun b => by
    rw [List.take_of_length_le (by simp; omega), List.drop_append_of_le_length (by omega), num_append, List.length_drop]
    rw [show l.length - 8 * (l.length / 8) = l.length % 8 by omega]; simp [num]
  have hlt := num_lt (l.drop (8 * (l.length / 8)))
  rw [List.length_drop, show l.length - 8 * (l.length / 8) = l.length % 8 by omega] at hlt
  have hp : 2 ^ (l.length % 8) ≤ 2 ^ 7 := Nat.pow_le_pow_right (by decide) (by omega)
  have hf := byteOf_nat (l ++ [false]) (l.length / 8)
  have ht := byteOf_nat (l ++ [true]) (l.length / 8)
  rw [h1] at hf ht
  simp only [Bool.toNat_false, Bool.toNat_true, Nat.mul_zero, Nat.add_zero, Nat.mul_one] at hf ht
  refine ⟨byteOf (l ++ [false]) (l.length / 8), ?_, by omega, ?_⟩
  · unfold textOf bytesOf
    rw [List.getElem?_map, List.getElem?_range (by simp; omega)]; rfl
  · apply List.ext_getElem?
    intro i
    rw [List.getElem?_set, textOf_length]
    have hlen : ((l ++ [false]).length + 7) / 8 = l.length / 8 + 1 := by simp; omega
    have hlen2 : ((l ++ [true]).length + 7) / 8 = l.length / 8 + 1 := by simp; omega
    unfold textOf bytesOf
    rw [hlen, hlen2]
    by_cases hi : l.length / 8 = i
    · subst hi
      rw [if_pos rfl, if_pos (by omega), List.getElem?_map, List.getElem?_range (by omega)]
      simp only [Option.map_some, Option.some.injEq]
      apply UInt8.toNat_inj.1
      rw [ht, hf, UInt8.toNat_ofNat_of_lt' (by show _ < 256; omega)]
    · rw [if_neg hi, List.getElem?_map, List.getElem?_map]
      by_cases hlt : i < l.length / 8 + 1
      · rw [List.getElem?_range hlt]
        simp only [Option.map_some]
        rw [byteOf_append l [true] i (by omega), byteOf_append l [false] i (by omega)]
      · simp [List.getElem?_eq_none (show (List.range (l.length / 8 + 1)).length ≤ i by simp; omega)]
theorem textOf_sbits (m : List UInt8) : textOf (sbits m) = m := by
  apply List.ext_getElem?
  intro i
  unfold textOf bytesOf
  rw [sbits_length, show (8 * m.length + 7) / 8 = m.length by omega, List.getElem?_map]
  by_cases hi : i < m.length
  · rw [List.getElem?_range hi, List.getElem?_eq_getElem hi]
    simp only [Option.map_some, Option.some.injEq]
    apply UInt8.toNat_inj.1
    rw [byteOf_nat, ← sbits_drop, List.drop_eq_getElem_cons hi]
    have := (m[i]).toNat_lt
    simp only [sbits]
    rw [List.take_append_of_le_length (by rw [lowB_length]; omega), List.take_of_length_le (by rw [lowB_length]; omega), num_lowB, Nat.mod_eq_of_lt (by omega)]
  · rw [List.getElem?_eq_none (by simp; omega), List.getElem?_eq_none (by omega)]; rfl
theorem lowB_zero : ∀ n, lowB n 0 = List.replicate n false
  | 0 => rfl
  | n + 1 => by simp [lowB, lowB_zero n, List.replicate_succ]
theorem fill8_length (l : List Bool) : (fill8 l).length = 8 * ((l.length + 7) / 8) := by unfold fill8; simp; omega
theorem fill8_lowB (l : List Bool) (h : l.length % 8 ≠ 0) : l ++ lowB (8 - l.length % 8) 0 = fill8 l := by
  unfold fill8
  rw [lowB_zero, show 8 * ((l.length + 7) / 8) - l.length = 8 - l.length % 8 by omega]
theorem fill8_whole (l : List Bool) (h : l.length % 8 = 0) : fill8 l = l := by
  unfold fill8
  rw [show 8 * ((l.length + 7) / 8) - l.length = 0 by omega]; simp
theorem bytesOf_sbits (L : List Bool) (q : Nat) (hq : L.length = 8 * q) (s : List UInt8) : ∀ j, j ≤ s.length → bytesOf (L ++ sbits s) (q + j) = bytesOf L q ++ s.take j
  | 0, _ => by rw [Nat.add_zero, bytesOf_append _ _ _ (by omega)]; simp
  | j + 1, h => by
    rw [← Nat.add_assoc, bytesOf_succ, bytesOf_sbits L q hq s j (by omega), List.take_succ_eq_append_getElem (by omega), List.append_assoc]
    congr 2
    have h1 : byteOf (L ++ sbits s) (q + j) = byteOf (sbits s) j := by
      unfold byteOf
      rw [show 8 * (q + j) = L.length + 8 * j by omega, ← List.drop_drop, List.drop_left]
    have h2 := congrArg (fun l => l[j]?) (textOf_sbits s)
    simp only [textOf, bytesOf, sbits_length] at h2
    rw [show (8 * s.length + 7) / 8 = s.length by omega, List.getElem?_map, List.getElem?_range (by omega), List.getElem?_eq_getElem (by omega)] at h2
    simp only [Option.map_some, Option.some.injEq] at h2
    rw [h1, h2]
end BitsM

/- Plain facts: what the reference's reading comes to is what the table's reading comes to. -/
set_option linter.unusedVariables false
namespace HuffM
open BitsM Go.Proofs.YtlohadencnpdgaaDoor
theorem fin_append (l r : List Nat) : ∀ m, fin (l ++ r) m = fin l m + fin r m
  | 0 => rfl
  | m + 1 => by simp only [fin, fin_append l r m, List.count_append]; omega
theorem num_inj : ∀ {l r : List Bool}, l.length = r.length → num l = num r → l = r
  | [], [], _, _ => rfl
  | a :: l, b :: r, hl, hn => by
    simp only [num] at hn
    have ha := Bool.toNat_le a
    have hb := Bool.toNat_le b
    have h1 : a.toNat = b.toNat := by omega
    have h2 : num l = num r := by omega
    rw [num_inj (by simpa using hl) h2]
    congr 1
    cases a <;> cases b <;> simp_all
theorem hv_inj {l r : List Bool} (hl : l.length = r.length) (h : hv l = hv r) : l = r := by
  have := num_inj (l := l.reverse) (r := r.reverse) (by simpa using hl) h
  exact List.reverse_inj.1 this
theorem cbits_prefix {ls : List Nat} (hf : Fits ls) {s n : Nat} (h : ls[s]? = some n) (h1 : 1 ≤ n) (B : List Bool) : cbits ls s <+: B ↔ At ls B s n := by
  have hl : (cbits ls s).length = n := by rw [cbits_length, getD_of h]
  constructor
  · intro hp
    have hle := hp.length_le
    refine ⟨h, h1, by omega, ?_⟩
    have := List.prefix_iff_eq_take.1 hp
    rw [hl] at this
    rw [← this, hv_cbits hf h h1]
  · rintro ⟨_, _, h2, h3⟩
    rw [List.prefix_iff_eq_take, hl]
    exact hv_inj (by rw [hl, List.length_take]; omega) (by rw [h3, hv_cbits hf h h1])
/-- What the reference's reading comes to. -/
def RefRes (ls : List Nat) (B : List Bool) (y n err : Nat) : Prop :=
  (err = 0 ∧ At ls B y n) ∨ (err = 6 ∧ y = 0 ∧ n = 0 ∧ (∀ s m, ¬ At ls B s m) ∧ ∃ s, B.length < (cbits ls s).length ∧ B <+: cbits ls s) ∨
  (err = 3 ∧ y = 0 ∧ n = 0 ∧ (∀ s m, ¬ At ls B s m) ∧ ∀ s, s < ls.length → B.length < (cbits ls s).length → ¬ B <+: cbits ls s)
/-- Without a gap, or without codes, or the one code 0. -/
def Gap (ls : List Nat) : Prop := Full ls ∨ (sorted ls 15).length = 0 ∨ ((sorted ls 15).length = 1 ∧ ls.count 1 = 1)
theorem no_at {ls : List Nat} {B : List Bool} {n : Nat} (hn : n ≤ B.length) (h : fin ls n ≤ hv (B.take n)) {s m : Nat} (hm : m ≤ n) : ¬ At ls B s m := by
  intro ha
  have h1 := hv_take B hm hn
  rw [ha.2.2.2] at h1
  have h2 := code_lt ha.1 ha.2.1
  have h3 := fin_double ls m (n - m)
  rw [show m + (n - m) = n by omega] at h3
  have h4 : fin ls m ≤ hv (B.take n) / 2 ^ (n - m) := by rw [Nat.le_div_iff_mul_le (Nat.two_pow_pos _), Nat.mul_comm]; omega
  omega
theorem res_ref {ls : List Nat} (hf : Fits ls) (hg : Gap ls) {B : List Bool} {x err n y m err' : Nat} (h : Res ls B x err n) (h' : RefRes ls B y m err') : x = y ∧ err = err' ∧ (err = 0 → n = m) := by
  rcases h with ⟨rfl, ha⟩ | ⟨rfl, rfl, hn, h15, hge, hz⟩ | ⟨rfl, rfl, hn, h15, hge, hz⟩
  · rcases h' with ⟨rfl, hb⟩ | ⟨_, _, _, hno, _⟩ | ⟨_, _, _, hno, _⟩
    · obtain ⟨h1, h2⟩ := ha.one hb; exact ⟨h1, rfl, fun _ => h2⟩
    · exact absurd ha (hno _ _)
    · exact absurd ha (hno _ _)
  · subst hn
    have hex : ∃ s, s < ls.length ∧ B.length < (cbits ls s).length ∧ B <+: cbits ls s := by
      rcases hg with hfull | h0 | ⟨h1, h2⟩
      · obtain ⟨s, m, hs, hm, hm15, hc⟩ := full_ext hfull (by omega) hge (hv_lt B)
        have hl : (cbits ls s).length = m := by rw [cbits_length, getD_of hs]
        refine ⟨s, (List.getElem?_eq_some_iff.1 hs).1, by omega, ?_⟩
        rw [List.prefix_iff_eq_take]
        refine hv_inj (by rw [List.length_take]; omega) ?_
        rw [hv_take _ (n := m) (by omega) (by omega), List.take_of_length_le (by omega), hv_cbits hf hs (by omega), hc]
      · obtain ⟨z, hm, hlt⟩ := hz
        have := sorted_lt hm hlt (hf.2 z hm); omega
      · obtain ⟨z, hm, hlt⟩ := hz
        have hz1 : z ≤ 1 := by
          rcases Nat.lt_or_ge 1 z with h | h
          · have h3 := sorted_lt hm h (hf.2 z hm)
            have h4 : (sorted ls 1).length = 0 + ls.count 1 := by rw [sorted, List.length_append, syms_length]; rfl
            omega
          · exact h
        have hB : B = [] := List.eq_nil_of_length_eq_zero (by omega)
        obtain ⟨s, hs, hsz⟩ := List.getElem_of_mem hm
        have hs? : ls[s]? = some z := by rw [List.getElem?_eq_getElem hs, hsz]
        refine ⟨s, hs, by rw [cbits_length, getD_of hs?]; omega, ?_⟩
        rw [hB]; exact List.nil_prefix
    rcases h' with ⟨rfl, hb⟩ | ⟨rfl, rfl, _, _, _⟩ | ⟨_, _, _, _, hno⟩
    · exact absurd hb (no_at (Nat.le_refl _) (by rwa [List.take_length]) hb.2.2.1)
    · exact ⟨rfl, rfl, fun h => by cases h⟩
    · obtain ⟨s, h1, h2, h3⟩ := hex
      exact absurd h3 (hno s h1 h2)
  · rcases h' with ⟨rfl, hb⟩ | ⟨rfl, rfl, _, _, s, h1, h2⟩ | ⟨rfl, rfl, _, _, _⟩
    · exact absurd hb (no_at hn hge (hz _ (List.mem_of_getElem? hb.1)))
    · exfalso
      rw [cbits_length] at h1
      have : ls.getD s 0 ≤ n := by
        rw [List.getD_eq_getElem?_getD]
        cases hs : ls[s]? with
        | none => exact Nat.zero_le _
        | some q => exact hz q (List.mem_of_getElem? hs)
      omega
    · exact ⟨rfl, rfl, fun h => by cases h⟩
theorem lowB_snoc : ∀ (n x : Nat), lowB (n + 1) x = lowB n x ++ [x.testBit n]
  | 0, x => by simp [lowB, Nat.testBit_zero]; rfl
  | n + 1, x => by rw [lowB, lowB_snoc n (x / 2), lowB, List.cons_append, Nat.testBit_succ]
end HuffM

/- Inflating, on lists of bits. -/
set_option linter.unusedVariables false
namespace InfM
open BitsM HuffM Go.Proofs.YtlohadencnpdgaaDoor
/-- An error's number, or a value and the place behind it. -/
abbrev E (α : Type) := Except Nat (α × Nat)
/-- The next n bits. -/
def take (B : List Bool) (n p : Nat) : E Nat := if p + n ≤ B.length then .ok (num ((B.drop p).take n), p + n) else .error 6
/-- A longer code begins with these bits. -/
def Longer (ls : List Nat) (b : List Bool) : Prop := ∃ s, s < ls.length ∧ b.length < (cbits ls s).length ∧ b <+: cbits ls s
open Classical in
/-- The symbol whose code comes next. -/
noncomputable def sym (ls : List Nat) (B : List Bool) (p : Nat) : E Nat :=
  if h : ∃ x : Nat × Nat, HuffM.At ls (B.drop p) x.1 x.2 then .ok (h.choose.1, p + h.choose.2)
  else if Longer ls (B.drop p) then .error 6 else .error 3
theorem sym_at {ls : List Nat} {B : List Bool} {p s n : Nat} (h : HuffM.At ls (B.drop p) s n) : sym ls B p = .ok (s, p + n) := by
  have hx : ∃ x : Nat × Nat, HuffM.At ls (B.drop p) x.1 x.2 := ⟨(s, n), h⟩
  unfold sym
  rw [dif_pos hx]
  obtain ⟨h1, h2⟩ := hx.choose_spec.one h
  rw [h1, h2]
theorem ref_longer {ls : List Nat} (hf : Fits ls) (hg : Gap ls) {b : List Bool} {x err n : Nat} (h : Res ls b x err n) : (err = 0 ∧ HuffM.At ls b x n) ∨ (err = 6 ∧ x = 0 ∧ (∀ s m, ¬ HuffM.At ls b s m) ∧ Longer ls b) ∨ (err = 3 ∧ x = 0 ∧ (∀ s m, ¬ HuffM.At ls b s m) ∧ ¬ Longer ls b) := by
  by_cases h0 : err = 0
  · rcases h with h | ⟨h, _⟩ | ⟨h, _⟩
    · exact .inl h
    · omega
    · omega
  · have hno : ∀ s m, ¬ HuffM.At ls b s m := by
      intro s m ha
      rcases h with ⟨h, _⟩ | ⟨_, _, hn, _, hge, _⟩ | ⟨_, _, hn, _, hge, hz⟩
      · exact h0 h
      · subst hn; exact no_at (Nat.le_refl _) (by rwa [List.take_length]) ha.2.2.1 ha
      · exact no_at hn hge (hz _ (List.mem_of_getElem? ha.1)) ha
    rcases Classical.em (Longer ls b) with hl | hl
    · have href : RefRes ls b 0 0 6 := .inr (.inl ⟨rfl, rfl, rfl, hno, hl.imp fun _ h => h.2⟩)
      obtain ⟨h1, h2, _⟩ := res_ref hf hg h href
      exact .inr (.inl ⟨h2, h1, hno, hl⟩)
    · have href : RefRes ls b 0 0 3 := .inr (.inr ⟨rfl, rfl, rfl, hno, fun s h1 h2 h3 => hl ⟨s, h1, h2, h3⟩⟩)
      obtain ⟨h1, h2, _⟩ := res_ref hf hg h href
      exact .inr (.inr ⟨h2, h1, hno, hl⟩)
/-- What the table's reading comes to, as a function. -/
theorem sym_res {ls : List Nat} (hf : Fits ls) (hg : Gap ls) {B : List Bool} {p x err n : Nat} (h : Res ls (B.drop p) x err n) :
    (err = 0 ∧ sym ls B p = .ok (x, p + n) ∧ 1 ≤ n ∧ n ≤ (B.drop p).length ∧ x < ls.length) ∨ ((err = 6 ∨ err = 3) ∧ x = 0 ∧ sym ls B p = .error err) := by
  rcases ref_longer hf hg h with ⟨h1, h2⟩ | ⟨h1, h2, h3, h4⟩ | ⟨h1, h2, h3, h4⟩
  · exact .inl ⟨h1, sym_at h2, h2.2.1, h2.2.2.1, (List.getElem?_eq_some_iff.1 h2.1).1⟩
  · refine .inr ⟨.inl h1, h2, ?_⟩
    unfold sym
    rw [dif_neg (fun ⟨x, hx⟩ => h3 _ _ hx), if_pos h4, h1]
  · refine .inr ⟨.inr h1, h2, ?_⟩
    unfold sym
    rw [dif_neg (fun ⟨x, hx⟩ => h3 _ _ hx), if_neg h4, h1]

/-- Bytes out of bits. -/
def bytesAt (B : List Bool) (n p : Nat) : List UInt8 := (List.range n).map fun i => UInt8.ofNat (num ((B.drop (p + 8 * i)).take 8))
/-- A stored block. -/
def stored (most : Nat) (B : List Bool) (p0 : Nat) (out : List UInt8) : E (List UInt8) :=
  let p := (p0 + 7) / 8 * 8
  if p + 32 ≤ B.length then
    let n := num ((B.drop p).take 16)
    if n + num ((B.drop (p + 16)).take 16) ≠ 65535 then .error 3
    else if p + 32 + 8 * n ≤ B.length then
      if most < out.length + n then .error 2 else .ok (out ++ bytesAt B n (p + 32), p + 32 + 8 * n)
    else if most < out.length + (B.length - (p + 32)) / 8 then .error 2 else .error 6
  else .error 6
/-- The lengths of a dynamic block's codes. -/
noncomputable def clens (cl : List Nat) (tot : Nat) (B : List Bool) : Nat → Nat → List Nat → E (List Nat)
  | 0, _, _ => .error 99
  | f + 1, p, l =>
    if tot ≤ l.length then .ok (l, p)
    else match sym cl B p with
      | .error e => .error e
      | .ok (s, p) =>
        if s < 16 then clens cl tot B f p (l ++ [s])
        else if s = 16 ∧ l = [] then .error 3
        else match take B (if s = 16 then 2 else if s = 17 then 3 else 7) p with
          | .error e => .error e
          | .ok (n, p) =>
            let k := (if s = 16 ∨ s = 17 then 3 else 11) + n
            if tot < l.length + k then .error 3 else clens cl tot B f p (l ++ List.replicate k (if s = 16 then l.getLastD 0 else 0))
def places : List Nat := [16, 17, 18, 0, 8, 7, 9, 6, 10, 5, 11, 4, 12, 3, 13, 2, 14, 1, 15]
/-- The lengths of the codes of lengths: those in these places. -/
def firsts (B : List Bool) : List Nat → Nat → List Nat → E (List Nat)
  | [], p, l => .ok (l, p)
  | i :: r, p, l => match take B 3 p with
    | .error e => .error e
    | .ok (n, p) => firsts B r p (l.set i n)
def chkN (ls : List Nat) : Nat := chk (ls.map Int.ofNat)
noncomputable def tables (B : List Bool) (p : Nat) : E (List Nat × List Nat) :=
  match take B 14 p with
  | .error e => .error e
  | .ok (h, p) =>
    let nl := h % 32 + 257
    let nd := h / 32 % 32 + 1
    let nc := h / 1024 + 4
    if 286 < nl ∨ 30 < nd then .error 3
    else match firsts B (places.take nc) p (List.replicate 19 0) with
      | .error e => .error e
      | .ok (first, p) =>
        if chkN first ≠ 0 then .error 3
        else match clens first (nl + nd) B (nl + nd + 1) p [] with
          | .error e => .error e
          | .ok (l, p) => if l.getD 256 0 = 0 ∨ chkN (l.take nl) ≠ 0 ∨ chkN (l.drop nl) ≠ 0 then .error 3 else .ok ((l.take nl, l.drop nl), p)
def lenBase (i : Nat) : Nat × Nat := if i = 28 then (258, 0) else if i < 8 then (3 + i, 0) else (3 + (4 + i % 4) * 2 ^ (i / 4 - 1), i / 4 - 1)
def distBase (i : Nat) : Nat × Nat := if i < 4 then (1 + i, 0) else (1 + (2 + i % 2) * 2 ^ (i / 2 - 1), i / 2 - 1)
/-- n bytes from so far back. -/
def copy (back : Nat) : Nat → List UInt8 → List UInt8
  | 0, out => out
  | n + 1, out => copy back n (out ++ [out.getD (out.length - back) 0])
noncomputable def rep (dist : List Nat) (most : Nat) (B : List Bool) (s p : Nat) (out : List UInt8) : E (List UInt8) :=
  if 285 < s then .error 3
  else match take B (lenBase (s - 257)).2 p with
    | .error e => .error e
    | .ok (more, p) => match sym dist B p with
      | .error e => .error e
      | .ok (d, p) =>
        if 29 < d then .error 3
        else match take B (distBase d).2 p with
          | .error e => .error e
          | .ok (far, p) =>
            let n := (lenBase (s - 257)).1 + more
            let back := (distBase d).1 + far
            if out.length < back then .error 3
            else if most < out.length + n then .error 2 else .ok (copy back n out, p)
noncomputable def packed (lit dist : List Nat) (most : Nat) (B : List Bool) : Nat → Nat → List UInt8 → E (List UInt8)
  | 0, _, _ => .error 99
  | f + 1, p, out => match sym lit B p with
    | .error e => .error e
    | .ok (s, p) =>
      if s = 256 then .ok (out, p)
      else if s < 256 then if out.length = most then .error 2 else packed lit dist most B f p (out ++ [UInt8.ofNat s])
      else match rep dist most B s p out with
        | .error e => .error e
        | .ok (out, p) => packed lit dist most B f p out
def fixedLit : List Nat := List.replicate 144 8 ++ List.replicate 112 9 ++ List.replicate 24 7 ++ List.replicate 8 8
def fixedDist : List Nat := List.replicate 32 5
noncomputable def block (most : Nat) (B : List Bool) (kind p : Nat) (out : List UInt8) : E (List UInt8) :=
  if kind = 0 then stored most B p out
  else if kind = 1 then packed fixedLit fixedDist most B (B.length + 1) p out
  else if kind = 2 then match tables B p with
    | .error e => .error e
    | .ok ((lit, dist), p) => packed lit dist most B (B.length + 1) p out
  else .error 3
noncomputable def blocks (most : Nat) (B : List Bool) : Nat → Nat → List UInt8 → E (List UInt8)
  | 0, _, _ => .error 99
  | f + 1, p, out => match take B 3 p with
    | .error e => .error e
    | .ok (h, p) => match block most B (h / 2) p out with
      | .error e => .error e
      | .ok (out, p) => if h % 2 = 1 then .ok (out, p) else blocks most B f p out
/-- What the bits say, within so many bytes. -/
noncomputable def inf (most : Nat) (B : List Bool) : E (List UInt8) := blocks most B (B.length + 1) 0 []
/-- .. of a text from a place on: what comes out, how many bytes are taken, the error's number. -/
noncomputable def inflate (s : List UInt8) (at_ most : Int) : List UInt8 × Nat × Nat :=
  if at_ < 0 ∨ (s.length : Int) < at_ ∨ most < 0 ∨ 65536 < most then ([], 0, 1)
  else match inf most.toNat (sbits (s.drop at_.toNat)) with
    | .error e => ([], 0, e)
    | .ok (out, p) => (out, (p + 7) / 8, 0)
end InfM

/- The bit reader's other methods, and those above for any number of bits. Conditions as there. -/
set_option linter.unusedVariables false
namespace Go.Proofs.YtlohadencnpdgaaDoor
open Go Vc BitsM Go.Proofs

/-- From 0 to 32. -/
def can (n : Int) : Bool := decide (0 ≤ n ∧ n ≤ 32)
theorem can_true {n : Int} (h : can n = true) : ∃ m : Nat, n = (m : Int) ∧ m ≤ 32 := by
  have h := of_decide_eq_true h; exact ⟨n.toNat, by omega, by omega⟩
theorem can_false {n : Int} (h : can n = false) : n < 0 ∨ 32 < n := by
  have h := of_decide_eq_false h; omega

theorem peek_bad {b : Nat} {w : World} {n : Int} (hn : can n = false) :
    Calls Tryd.prog F_bitin_Reader_Peek #[.pointer (some ⟨b, 0, none⟩), .int .i64 n] w fun e w' => e = .returned (.tuple #[.int .u32 0, .int .i64 0]) ∧ w' = w := by
  refine vc_bitin_Reader_Peek_ok (R := fun v w' => v = .tuple #[.int .u32 0, .int .i64 0] ∧ w' = w) ?_ (fun v w' h => ⟨by rw [h.1], h.2⟩)
  refine ⟨fun _ => ⟨rfl, rfl⟩, fun h1 => ⟨fun _ => ⟨rfl, rfl⟩, fun h2 => ?_⟩⟩
  have h1 := of_decide_eq_false h1; have h2 := of_decide_eq_false h2
  rcases can_false hn with h | h <;> omega
theorem skip_bad {b : Nat} {w : World} {n : Int} (hn : can n = false) :
    Calls Tryd.prog F_bitin_Reader_Skip #[.pointer (some ⟨b, 0, none⟩), .int .i64 n] w fun e w' => e = .returned (.bool false) ∧ w' = w := by
  refine vc_bitin_Reader_Skip_ok (R := fun v w' => v = .bool false ∧ w' = w) ?_ (fun v w' h => ⟨by rw [h.1], h.2⟩)
  refine ⟨fun _ => ⟨rfl, rfl⟩, fun h1 => ⟨fun _ => ⟨rfl, rfl⟩, fun h2 => ?_⟩⟩
  have h1 := of_decide_eq_false h1; have h2 := of_decide_eq_false h2
  rcases can_false hn with h | h <;> omega
theorem rbits_bad {b : Nat} {w : World} {n : Int} (hn : can n = false) :
    Calls Tryd.prog F_bitin_Reader_Bits #[.pointer (some ⟨b, 0, none⟩), .int .i64 n] w fun e w' => e = .returned (.tuple #[.int .u32 0, .bool false]) ∧ w' = w := by
  refine vc_bitin_Reader_Bits_ok (R := fun v w' => v = .tuple #[.int .u32 0, .bool false] ∧ w' = w) ?_ (fun v w' h => ⟨by rw [h.1], h.2⟩)
  refine (peek_bad hn).mono ?_
  rintro e w2 ⟨rfl, rfl⟩
  refine ⟨_, _, rfl, ?_⟩
  refine (skip_bad hn).mono ?_
  rintro e w6 ⟨rfl, rfl⟩
  exact ⟨_, rfl, fun _ => ⟨rfl, rfl⟩, fun h => by cases h⟩

/-- The next multiple of eight. -/
def up8 (n : Nat) : Nat := (n + 7) / 8 * 8
theorem align_spec {b : Nat} {s : ByteArray} {pos : Nat} {from_ : Int} {w : World} (h : Rd w b s pos from_) :
    Calls Tryd.prog F_bitin_Reader_Align #[.pointer (some ⟨b, 0, none⟩)] w fun e w' => e = .returned (.tuple #[]) ∧ Rd w' b s (up8 pos) from_ ∧ Fr (· = b) w w' := by
  obtain ⟨a, h⟩ := h
  refine vc_bitin_Reader_Align_ok (R := fun v w' => v = .tuple #[] ∧ Rd w' b s (up8 pos) from_ ∧ Fr (· = b) w w') ?_ (fun v w' h => ⟨by rw [h.1], h.2⟩)
  have := h.lo; have := h.hi; have := h.sz
  have e0 : Int.tmod ((8 * a - pos : Nat) : Int) 8 = (((8 * a - pos) % 8 : Nat) : Int) := by rw [Int.tmod_eq_emod_of_nonneg (by omega)]; omega
  have e1 : pos + (8 * a - pos) % 8 = up8 pos := by unfold up8; omega
  have e2 : Int.fdiv ((held s a pos : Nat) : Int) (2 ^ min (((8 * a - pos) % 8 : Nat) : Int).toNat 64) = ((held s a (up8 pos) : Nat) : Int) := by
    have hm : min (((8 * a - pos) % 8 : Nat) : Int).toNat 64 = (8 * a - pos) % 8 := by omega
    have hc : (2 : Int) ^ ((8 * a - pos) % 8) = ((2 ^ ((8 * a - pos) % 8) : Nat) : Int) := by push_cast; rfl
    rw [hm, hc, ← e1, ← held_skip, Int.fdiv_eq_ediv_of_nonneg _ (Int.natCast_nonneg _), ← Int.natCast_ediv]
  refine ⟨_, h.c3, by decide, _, h.c2, by rw [e0]; omega, wr_blk h.blk (by simp), ?_⟩
  rw [e0, e2]
  rintro w3 rfl
  have b1 := set_blk h.blk 2 (.int .u64 ((held s a (up8 pos) : Nat) : Int))
  refine ⟨((8 * a - pos : Nat) : Int), by rw [cell_blk b1]; rfl, wr_blk b1 (by simp), ?_⟩
  have e3 : IntKind.i64.wrap (((8 * a - pos : Nat) : Int) - (((8 * a - pos) % 8 : Nat) : Int)) = ((8 * a - up8 pos : Nat) : Int) := by rw [wrap_i64 (by omega) (by omega)]; omega
  rw [e3]
  rintro w5 rfl
  have b2 := set_blk b1 3 (.int .i64 ((8 * a - up8 pos : Nat) : Int))
  exact ⟨rfl, ⟨a, by unfold up8; omega, by unfold up8; omega, h.sz, h.ok, b2⟩, (Fr.set (· = b) _ _ rfl).trans' (.set _ _ _ rfl)⟩

theorem held_zero (s : ByteArray) (a : Nat) : held s a (8 * a) = 0 := Nat.div_eq_of_lt (V_lt s a)

/-- n whole bytes from the next byte's beginning on. -/
theorem rbytes_spec {b : Nat} {s : ByteArray} {pos : Nat} {from_ : Int} {w : World} (h : Rd w b s pos from_) (n : Int) (hn : -9223372036854775808 ≤ n ∧ n ≤ 9223372036854775807) :
    Calls Tryd.prog F_bitin_Reader_Bytes #[.pointer (some ⟨b, 0, none⟩), .int .i64 n] w fun e w' =>
      ((0 ≤ n ∧ 8 * n ≤ ((left s (up8 pos) : Nat) : Int)) ∧ e = .returned (.tuple #[.string (s.extract (up8 pos / 8) (up8 pos / 8 + n.toNat)), .bool true]) ∧ Rd w' b s (up8 pos + 8 * n.toNat) from_ ∧ Fr (· = b) w w') ∨
      (¬ (0 ≤ n ∧ 8 * n ≤ ((left s (up8 pos) : Nat) : Int)) ∧ e = .returned (.tuple #[.string ⟨#[]⟩, .bool false]) ∧ Rd w' b s (up8 pos) from_ ∧ Fr (· = b) w w') := by
  refine vc_bitin_Reader_Bytes_ok (R := fun v w' => ((0 ≤ n ∧ 8 * n ≤ ((left s (up8 pos) : Nat) : Int)) ∧ v = .tuple #[.string (s.extract (up8 pos / 8) (up8 pos / 8 + n.toNat)), .bool true] ∧ Rd w' b s (up8 pos + 8 * n.toNat) from_ ∧ Fr (· = b) w w') ∨
      (¬ (0 ≤ n ∧ 8 * n ≤ ((left s (up8 pos) : Nat) : Int)) ∧ v = .tuple #[.string ⟨#[]⟩, .bool false] ∧ Rd w' b s (up8 pos) from_ ∧ Fr (· = b) w w')) ?_
      (fun v w' h => h.imp (fun h => ⟨h.1, by rw [h.2.1], h.2.2⟩) (fun h => ⟨h.1, by rw [h.2.1], h.2.2⟩))
  refine (align_spec h).mono ?_
  rintro e w2 ⟨rfl, ⟨a, h2⟩, f2⟩
  have := h2.lo; have := h2.hi; have := h2.sz; have := h2.ok
  have hu : up8 pos = 8 * (up8 pos / 8) := by unfold up8; omega
  have e0 : Int.tdiv ((8 * a - up8 pos : Nat) : Int) 8 = ((a - up8 pos / 8 : Nat) : Int) := by rw [Int.tdiv_eq_ediv_of_nonneg (by omega)]; omega
  have e1 : IntKind.i64.wrap ((a : Int) - IntKind.i64.wrap ((a - up8 pos / 8 : Nat) : Int)) = ((up8 pos / 8 : Nat) : Int) := by
    rw [wrap_i64 (x := ((a - up8 pos / 8 : Nat) : Int)) (by omega) (by omega), wrap_i64 (by omega) (by omega)]; omega
  refine ⟨rfl, _, h2.c1, _, h2.c3, by decide, fun w5 d => ?_⟩
  rw [e0, e1]
  have h5 := h2.drew d
  have f5 : Fr (· = b) w w5 := f2.trans' (.drew _ d)
  have hl : left s (up8 pos) = 8 * (s.size - up8 pos / 8) := by unfold left; omega
  have e2 : IntKind.i64.wrap ((s.size : Int) - ((up8 pos / 8 : Nat) : Int)) = ((s.size - up8 pos / 8 : Nat) : Int) := by rw [wrap_i64 (by omega) (by omega)]; omega
  refine ⟨fun hneg => .inr ⟨?_, rfl, ⟨a, h5⟩, f5⟩, fun hpos => ⟨_, h5.c0, fun hbig => .inr ⟨?_, rfl, ⟨a, h5⟩, f5⟩, fun hfit => ?_⟩⟩
  · have hneg := of_decide_eq_true hneg; omega
  · have hbig := of_decide_eq_true hbig
    rw [e2] at hbig; omega
  have hpos := of_decide_eq_false hpos
  have hfit := of_decide_eq_false hfit
  rw [e2] at hfit
  obtain ⟨m, rfl⟩ := Int.eq_ofNat_of_zero_le (show 0 ≤ n by omega)
  have e3 : IntKind.i64.wrap (((up8 pos / 8 : Nat) : Int) + (m : Int)) = ((up8 pos / 8 + m : Nat) : Int) := by rw [wrap_i64 (by omega) (by omega)]; omega
  rw [e3]
  refine ⟨wr_blk h5.blk (by simp), ?_⟩
  rintro w7 rfl
  have b1 := set_blk h5.blk 1 (.int .i64 ((up8 pos / 8 + m : Nat) : Int))
  refine ⟨wr_blk b1 (by simp), ?_⟩
  rintro w8 rfl
  have b2 := set_blk b1 2 (.int .u64 0)
  refine ⟨wr_blk b2 (by simp), ?_⟩
  rintro w9 rfl
  have b3 := set_blk b2 3 (.int .i64 0)
  refine ⟨s, by rw [cell_blk b3]; rfl, ⟨by omega, by omega, by omega⟩, .inl ⟨by omega, ?_, ⟨up8 pos / 8 + m, by simp only [Int.toNat_natCast]; omega, by simp only [Int.toNat_natCast]; omega, by omega, h5.ok, ?_⟩, ?_⟩⟩
  · simp only [Int.toNat_natCast]
  · have e4 : up8 pos + 8 * ((m : Int)).toNat = 8 * (up8 pos / 8 + m) := by rw [Int.toNat_natCast]; omega
    rw [e4, RdO, held_zero, Nat.sub_self]
    exact b3
  · exact ((f5.trans' (.set _ _ _ rfl)).trans' (.set _ _ _ rfl)).trans' (.set _ _ _ rfl)
end Go.Proofs.YtlohadencnpdgaaDoor
