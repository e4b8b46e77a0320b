/- Whole bodies as formulas, and that the formula is enough for the model's own 'Calls'. No condition: for all programs. -/
import Derived.Test.YtoagdpjickippaaDoorVcOps
import Derived.OrdersHeld
import Derived.Scope
set_option linter.unusedVariables false
namespace Vc
open Go

def dstAt : List Oper → Nat → Option Tmp
  | [], _ => none
  | o :: _, 0 => o.dst
  | _ :: r, j + 1 => dstAt r j
theorem dstAt_spec : ∀ (l : List Oper) (j : Nat), dstAt l j = (l[j]?).bind (·.dst)
  | [], j => by simp [dstAt]
  | o :: r, 0 => by simp [dstAt]
  | o :: r, j + 1 => by simp [dstAt, dstAt_spec r j]

/-- What e holds outside these slots e' holds too. -/
def Ext (wr : List Nat) (e e' : Env) : Prop := ∀ t v, memN t wr = false → get e t = some v → ∃ b, get e' t = some (v.1, b)
theorem memN_app {t : Nat} : ∀ {l r : List Nat}, memN t (l ++ r) = false → memN t l = false ∧ memN t r = false
  | [], r, h => ⟨rfl, h⟩
  | s :: l, r, h => by
    simp only [List.cons_append, memN] at h ⊢
    cases hb : Nat.beq s t with
    | true => simp [hb] at h
    | false => simp only [hb] at h; exact memN_app h
theorem Ext.refl (wr : List Nat) (e : Env) : Ext wr e e := fun _ v _ h => ⟨v.2, h⟩
theorem Ext.trans {l r : List Nat} {e e1 e2 : Env} (h : Ext l e e1) (h' : Ext r e1 e2) : Ext (l ++ r) e e2 := fun t v hm hg => by
  obtain ⟨m1, m2⟩ := memN_app hm
  obtain ⟨b, hb⟩ := h t v m1 hg
  exact h' t (v.1, b) m2 hb
theorem Ext.trans' {wr : List Nat} {e e1 e2 : Env} (h : Ext wr e e1) (h' : Ext wr e1 e2) : Ext wr e e2 := fun t v hm hg => by
  obtain ⟨b, hb⟩ := h t v hm hg
  exact h' t (v.1, b) hm hb
theorem Ext.mono {l r : List Nat} {e e' : Env} (h : Ext l e e') (hlr : ∀ t, memN t r = false → memN t l = false) : Ext r e e' := fun t v hm hg => h t v (hlr t hm) hg
theorem Ext.put (e : Env) (d : Option Tmp) (v : Val) : Ext d.toList e (put e d v) := fun t u hm hg => by
  cases d with
  | none => exact ⟨u.2, hg⟩
  | some d =>
    refine ⟨u.2, ?_⟩
    simp only [Vc.put, get_cons]
    have : d ≠ t := by rintro rfl; simp [memN] at hm
    rw [if_neg this]; exact hg
theorem Ext.lay {e : Env} {t : Nat} {v : Val} (b : Bool) (ht : get e t = some v) (wr : List Nat) : Ext wr e ((t, (v.1, b)) :: e) := fun s u _ hg => by
  rw [get_cons]
  by_cases hst : t = s
  · subst hst
    rw [ht] at hg
    cases hg
    exact ⟨b, by simp⟩
  · exact ⟨u.2, by rw [if_neg hst]; exact hg⟩

section
variable (P : Program) (ty : Nat → Sh) (N : Nat)

def wStep (q : Md) (o : Oper) (e : Env) (w : World) (K : Env → World → Prop) : Prop :=
  match o.op with
  | .pick c a b => match hasAll e [c, a, b] with
    | false => False
    | true => match fits N o.dst with
      | false => False
      | true => match fl e c with
        | true => match vl e c with
          | .bool true => K (put e o.dst (vl e a, fl e a)) w
          | .bool false => K (put e o.dst (vl e b, fl e b)) w
          | _ => False
        | false => match vl e c with
          | .bool x => (x = true → K (put e o.dst (vl e a, fl e a)) w) ∧ (x = false → K (put e o.dst (vl e b, fl e b)) w)
          | _ => False
  | _ => match opnds o.op with
    | none => False
    | some l => match hasAll e l with
      | false => False
      | true => match fits N o.dst with
        | false => False
        | true => wOp1 P ty q o (vl e) (fl e) w (fun v b w' => K (put e o.dst (v, b)) w')

/-- Under its guard. -/
def wGuard (q : Md) (ops : List Oper) (o : Oper) (e : Env) (w : World) (K : Env → World → Prop) : Prop :=
  match o.guard with
  | none => wStep P ty N q o e w K
  | some (j, want) => match fits N o.dst with
    | false => False
    | true => match dstAt ops j with
      | none => False
      | some d => match get e d with
        | none => False
        | some (v, true) => match v with
          | .bool true => match want with
            | true => wStep P ty N q o e w K
            | false => K (put e o.dst (undef, false)) w
          | .bool false => match want with
            | true => K (put e o.dst (undef, false)) w
            | false => wStep P ty N q o e w K
          | _ => False
        | some (v, false) => match v with
          | .bool x => (x = true → match want with
              | true => wStep P ty N q o ((d, (.bool true, true)) :: e) w K
              | false => K (put ((d, (.bool true, true)) :: e) o.dst (undef, false)) w) ∧
            (x = false → match want with
              | true => K (put ((d, (.bool false, true)) :: e) o.dst (undef, false)) w
              | false => wStep P ty N q o ((d, (.bool false, true)) :: e) w K)
          | .tuple _ => K (put e o.dst (undef, false)) w
          | _ => False

def wOps (q : Md) (ops : List Oper) : List Oper → Env → World → (Env → World → Prop) → Prop
  | [], e, w, K => K e w
  | o :: r, e, w, K => wGuard P ty N q ops o e w (fun e' w' => wOps q ops r e' w' K)
end

section
variable {P : Program} {ty : Nat → Sh} {N : Nat}

theorem vl_const (e : Env) (v : Value) : vl e (.const v) = v := rfl

theorem wp_of_good {o : Oper} {e : Env} {a : Act} {w : World} {K : Env → World → Prop} {next : Act → World → Prop} {Q : Exit → Act → World → Prop}
    (hs : Sub N e a) {l : List Operand} (ho : opnds o.op = some l) (hl : hasAll e l = true) (hf : fits N o.dst = true)
    (h : Good P o (vl e) w (fun v b w' => K (put e o.dst (v, b)) w')) (hk : ∀ v w' a', K (put e o.dst v) w' → Sub N (put e o.dst v) a' → next a' w') : o.wp P a w next Q := by
  unfold Oper.wp
  rw [hs.exec ho hl]
  unfold Good at h
  cases hr : (execOp (vl e) o).run P w with
  | halt x w' => simp [hr] at h
  | ok n w' =>
    simp only [hr] at h
    cases n <;> simp only at h
    case value v => obtain ⟨b, h⟩ := h; exact hk _ _ _ h (hs.put hf)
    case skip => obtain ⟨b, h⟩ := h; exact hk _ _ _ h (hs.put (v := (undef, b)) hf)
    case enter f args =>
      exact h.mono fun e' w'' hh => by
        obtain ⟨v, rfl, b, hk'⟩ := hh
        exact hk _ _ _ hk' (hs.put (v := (v, b)) hf)

theorem wStep_sound {o : Oper} {e : Env} {a : Act} {w : World} {K : Env → World → Prop} {next : Act → World → Prop} {Q : Exit → Act → World → Prop}
    (h : wStep P ty N .full o e w K) (hs : Sub N e a) (hk : ∀ v w' a', K (put e o.dst v) w' → Sub N (put e o.dst v) a' → next a' w') : o.wp P a w next Q := by
  unfold wStep at h
  split at h
  · rename_i c x y ho
    split at h
    · exact h.elim
    rename_i hh
    split at h
    · exact h.elim
    rename_i hf
    have hx := hs.vl (hasAll_spec hh x (by simp))
    have hy := hs.vl (hasAll_spec hh y (by simp))
    have hc := hs.vl (hasAll_spec hh c (by simp))
    have key : ∀ t : Bool, vl e c = .bool t → K (put e o.dst (if t then vl e x else vl e y, if t then fl e x else fl e y)) w → o.wp P a w next Q := by
      intro t ht hK
      have : (execOp a.eval o).run P w = .ok (.value (if t then vl e x else vl e y)) w := by
        simp only [execOp, ho, hc, hx, hy, ht]
        cases t <;> simp [asBool]
      unfold Oper.wp
      rw [this]
      exact hk _ _ _ hK (hs.put (v := (if t then vl e x else vl e y, if t then fl e x else fl e y)) hf)
    split at h
    · split at h
      · rename_i ht; exact key true ht h
      · rename_i ht; exact key false ht h
      · exact h.elim
    · split at h
      · rename_i t ht
        cases t
        · exact key false ht (h.2 rfl)
        · exact key true ht (h.1 rfl)
      · exact h.elim
  · split at h
    · exact h.elim
    rename_i l ho
    split at h
    · exact h.elim
    rename_i hl
    split at h
    · exact h.elim
    rename_i hf
    exact wp_of_good hs ho hl hf (good_op1 (q := .full) (vl_const e) h) hk

theorem yielded_of {ops : List Oper} {e : Env} {a : Act} (hs : Sub N e a) {j d : Nat} (hd : dstAt ops j = some d) {v : Val} (hv : get e d = some v) :
    yielded ops.toArray a.tmps j = match v.1 with | .bool b => some b | _ => none := by
  have h1 := hs.at_ d v hv
  rw [dstAt_spec] at hd
  unfold yielded
  simp only [List.getElem?_toArray, hd, Option.bind_some, h1]
  cases v.1 <;> rfl

/-! ### Regions that draw their order -/
theorem drewN_heap (w : World) (n : Nat) : (w.drewN n).heap = w.heap := rfl

theorem quiet_of_good {o : Oper} {e : Env} {a : Act} {w : World} {K : Env → World → Prop} {next : Act → Prop}
    (hs : Sub N e a) {l : List Operand} (ho : opnds o.op = some l) (hl : hasAll e l = true) (hf : fits N o.dst = true)
    (h : GoodQ P o (vl e) w (fun v b w' => K (put e o.dst (v, b)) w')) (hk : ∀ v a', K (put e o.dst v) w → Sub N (put e o.dst v) a' → next a') :
    o.quiet P a (fun w' => ∃ n, w' = w.drewN n) next := by
  have hex := hs.exec ho hl
  rcases h with ⟨v, b, hK, hr⟩ | ⟨f, args, v, b, hK, hr, hc⟩
  · refine ⟨v, fun w' ⟨n, hw'⟩ => ?_, hk _ _ hK (hs.put (v := (v, b)) hf)⟩
    subst hw'
    unfold Oper.quietAt
    rw [hex, hr (w.drewN n) rfl]
    exact ⟨rfl, rfl⟩
  · refine ⟨v, fun w' ⟨n, hw'⟩ => ?_, hk _ _ hK (hs.put (v := (v, b)) hf)⟩
    subst hw'
    unfold Oper.quietAt
    rw [hex, hr (w.drewN n)]
    exact ⟨rfl, hc _ ⟨n, rfl⟩⟩
theorem still_of_good {o : Oper} {e : Env} {a : Act} {w : World} {K : Env → World → Prop} {next : Act → Prop}
    (hs : Sub N e a) {l : List Operand} (ho : opnds o.op = some l) (hl : hasAll e l = true) (hf : fits N o.dst = true)
    (h : GoodS P o (vl e) w (fun v b w' => K (put e o.dst (v, b)) w')) (hk : ∀ v a', K (put e o.dst v) w → Sub N (put e o.dst v) a' → next a') :
    o.still P a w next := by
  have hex := hs.exec ho hl
  obtain ⟨v, b, hK, hr⟩ := h
  unfold Oper.still
  rw [hex, hr w rfl]
  exact ⟨rfl, hk _ _ hK (hs.put (v := (v, b)) hf)⟩

/-- The open step, whatever is asked of the operation ('R'). -/
theorem wStep_open {q : Md} {o : Oper} {e : Env} {a : Act} {w : World} {K : Env → World → Prop} {R : Prop}
    (h : wStep P ty N q o e w K) (hs : Sub N e a)
    (pick : ∀ v b, K (put e o.dst (v, b)) w → fits N o.dst = true → (∀ w2, (execOp a.eval o).run P w2 = .ok (.value v) w2) → R)
    (op : ∀ l, opnds o.op = some l → hasAll e l = true → fits N o.dst = true → Gd P q o (vl e) w (fun v b w' => K (put e o.dst (v, b)) w') → R) : R := by
  unfold wStep at h
  split at h
  · rename_i c x y ho
    split at h
    · exact h.elim
    rename_i hh
    split at h
    · exact h.elim
    rename_i hf
    have hx := hs.vl (hasAll_spec hh x (by simp))
    have hy := hs.vl (hasAll_spec hh y (by simp))
    have hc := hs.vl (hasAll_spec hh c (by simp))
    have key : ∀ t : Bool, vl e c = .bool t → K (put e o.dst (if t then vl e x else vl e y, if t then fl e x else fl e y)) w → R := by
      intro t ht hK
      refine pick _ _ hK hf fun w2 => ?_
      simp only [execOp, ho, hc, hx, hy, ht]
      cases t <;> simp [asBool]
    split at h
    · split at h
      · rename_i ht; exact key true ht h
      · rename_i ht; exact key false ht h
      · exact h.elim
    · split at h
      · rename_i t ht
        cases t
        · exact key false ht (h.2 rfl)
        · exact key true ht (h.1 rfl)
      · exact h.elim
  · split at h
    · exact h.elim
    rename_i l ho
    split at h
    · exact h.elim
    rename_i hl
    split at h
    · exact h.elim
    rename_i hf
    exact op l ho hl hf (good_op1 (vl_const e) h)

theorem wStep_quiet {o : Oper} {e : Env} {a : Act} {w : World} {K : Env → World → Prop} {next : Act → Prop}
    (h : wStep P ty N .quiet o e w K) (hs : Sub N e a) (hk : ∀ v a', K (put e o.dst v) w → Sub N (put e o.dst v) a' → next a') : o.quiet P a (fun w' => ∃ n, w' = w.drewN n) next :=
  wStep_open h hs (fun v b hK hf hr => ⟨v, fun w' ⟨n, hw'⟩ => by
      subst hw'
      unfold Oper.quietAt
      rw [hr (w.drewN n)]
      exact ⟨rfl, rfl⟩, hk _ _ hK (hs.put (v := (v, b)) hf)⟩)
    (fun l ho hl hf h => quiet_of_good hs ho hl hf h hk)
theorem wStep_still {o : Oper} {e : Env} {a : Act} {w : World} {K : Env → World → Prop} {next : Act → Prop}
    (h : wStep P ty N .still o e w K) (hs : Sub N e a) (hk : ∀ v a', K (put e o.dst v) w → Sub N (put e o.dst v) a' → next a') : o.still P a w next :=
  wStep_open h hs (fun v b hK hf hr => by
      unfold Oper.still
      rw [hr w]
      exact ⟨rfl, hk _ _ hK (hs.put (v := (v, b)) hf)⟩)
    (fun l ho hl hf h => still_of_good hs ho hl hf h hk)

/-- The guard, opened: whatever is asked ('Y': it is carried out; 'Z': it is passed over). -/
theorem wGuard_open {q : Md} {ops : List Oper} {o : Oper} {e : Env} {a : Act} {w : World} {K : Env → World → Prop} {R : Prop}
    (h : wGuard P ty N q ops o e w K) (hs : Sub N e a)
    (yes : ∀ e', Ext [] e e' → Sub N e' a → Region.wanted o (yielded ops.toArray a.tmps) = true → wStep P ty N q o e' w K → R)
    (no : ∀ e', Ext [] e e' → Sub N e' a → fits N o.dst = true → Region.wanted o (yielded ops.toArray a.tmps) = false → K (put e' o.dst (undef, false)) w → R) : R := by
  simp only [wGuard] at h
  split at h
  · rename_i hg
    exact yes e (.refl _ _) hs (by simp [Region.wanted, hg]) h
  · rename_i j want hg
    split at h
    · exact h.elim
    rename_i hf
    split at h
    · exact h.elim
    rename_i d hd
    split at h
    · exact h.elim
    · rename_i v hv
      have hy := yielded_of hs hd hv
      split at h
      · rename_i hvb
        split at h
        · exact yes e (.refl _ _) hs (by simp [Region.wanted, hg, hy]) h
        · exact no e (.refl _ _) hs hf (by simp [Region.wanted, hg, hy]) h
      · rename_i hvb
        split at h
        · exact no e (.refl _ _) hs hf (by simp [Region.wanted, hg, hy]) h
        · exact yes e (.refl _ _) hs (by simp [Region.wanted, hg, hy]) h
      · exact h.elim
    · rename_i v hv
      have hy := yielded_of hs hd hv
      split at h
      · rename_i x
        cases x
        · have hs' := hs.lay true hv
          have h := h.2 rfl
          split at h
          · exact no _ (.lay true hv _) hs' hf (by simp [Region.wanted, hg, hy]) h
          · exact yes _ (.lay true hv _) hs' (by simp [Region.wanted, hg, hy]) h
        · have hs' := hs.lay true hv
          have h := h.1 rfl
          split at h
          · exact yes _ (.lay true hv _) hs' (by simp [Region.wanted, hg, hy]) h
          · exact no _ (.lay true hv _) hs' hf (by simp [Region.wanted, hg, hy]) h
      · exact no e (.refl _ _) hs hf (by simp [Region.wanted, hg, hy]) h
      · exact h.elim

def dsts : List Oper → List Nat
  | [] => []
  | o :: r => match o.dst with
    | some d => d :: dsts r
    | none => dsts r
theorem dsts_app : ∀ (l r : List Oper), dsts (l ++ r) = dsts l ++ dsts r
  | [], r => rfl
  | o :: l, r => by
    simp only [List.cons_append, dsts, dsts_app l r]
    cases o.dst <;> rfl
theorem ext_step {o : Oper} {r : List Oper} {e e1 e2 : Env} {v : Val} (h : Ext [] e e1) (h' : Ext (dsts r) (put e1 o.dst v) e2) : Ext (dsts (o :: r)) e e2 := by
  have h1 := (h.trans (Ext.put e1 o.dst v)).trans h'
  refine h1.mono fun t ht => ?_
  simp only [dsts] at ht
  cases hd : o.dst with
  | none => simpa [hd] using ht
  | some d => simpa [hd] using ht
theorem wOps_sound {ops : List Oper} {Q : Exit → Act → World → Prop} : ∀ (l : List Oper) (e : Env) (a : Act) (w : World) (K : Env → World → Prop),
    wOps P ty N .full ops l e w K → Sub N e a → (∀ e' w' a', K e' w' → Ext (dsts l) e e' → Sub N e' a' → Q .normal a' w') → wpList P ops.toArray Q l a w
  | [], e, a, w, K, h, hs, hk => hk _ _ _ h (.refl _ _) hs
  | o :: r, e, a, w, K, h, hs, hk => by
    refine wGuard_open h hs (fun e1 he hs hw h => ?_) (fun e1 he hs hf hw h => ?_)
    · unfold wpList; rw [if_pos hw]
      exact .inl (wStep_sound h hs fun v w' a' hh hs' => wOps_sound r _ a' w' K hh hs' fun e' w' a' h1 h2 h3 => hk _ _ _ h1 (ext_step he h2) h3)
    · unfold wpList; rw [if_neg (by simp [hw])]
      exact wOps_sound r _ _ w K h (hs.put (v := (undef, false)) hf) fun e' w' a' h1 h2 h3 => hk _ _ _ h1 (ext_step he h2) h3
theorem wOps_quiet {ops : List Oper} {Q : Act → Prop} {w : World} : ∀ (l : List Oper) (e : Env) (a : Act) (K : Env → World → Prop),
    wOps P ty N .quiet ops l e w K → Sub N e a → (∀ e' a', K e' w → Ext (dsts l) e e' → Sub N e' a' → Q a') → wpQuiet P ops.toArray (fun w' => ∃ n, w' = w.drewN n) Q l a
  | [], e, a, K, h, hs, hk => hk _ _ h (.refl _ _) hs
  | o :: r, e, a, K, h, hs, hk => by
    refine wGuard_open h hs (fun e1 he hs hw h => ?_) (fun e1 he hs hf hw h => ?_)
    · unfold wpQuiet; rw [if_pos hw]
      exact wStep_quiet h hs fun v a' hh hs' => wOps_quiet r _ a' K hh hs' fun e' a' h1 h2 h3 => hk _ _ h1 (ext_step he h2) h3
    · unfold wpQuiet; rw [if_neg (by simp [hw])]
      exact wOps_quiet r _ _ K h (hs.put (v := (undef, false)) hf) fun e' a' h1 h2 h3 => hk _ _ h1 (ext_step he h2) h3
theorem wOps_still {ops : List Oper} {Q : Act → Prop} {w : World} : ∀ (l : List Oper) (e : Env) (a : Act) (K : Env → World → Prop),
    wOps P ty N .still ops l e w K → Sub N e a → (∀ e' a', K e' w → Ext (dsts l) e e' → Sub N e' a' → Q a') → wpStill P ops.toArray w Q l a
  | [], e, a, K, h, hs, hk => hk _ _ h (.refl _ _) hs
  | o :: r, e, a, K, h, hs, hk => by
    refine wGuard_open h hs (fun e1 he hs hw h => ?_) (fun e1 he hs hf hw h => ?_)
    · unfold wpStill; rw [if_pos hw]
      exact wStep_still h hs fun v a' hh hs' => wOps_still r _ a' K hh hs' fun e' a' h1 h2 h3 => hk _ _ h1 (ext_step he h2) h3
    · unfold wpStill; rw [if_neg (by simp [hw])]
      exact wOps_still r _ _ K h (hs.put (v := (undef, false)) hf) fun e' a' h1 h2 h3 => hk _ _ h1 (ext_step he h2) h3
end

/-! ### Regions that draw their order, with effects in one order and reads that no effect turns -/
section
variable {P : Program} {ty : Nat → Sh} {N : Nat} {ops : Array Oper} {Q : Exit → Act → World → Prop} {S : World → Prop}

/-- Every other operation is waited for by a later one: so it is the last, whatever the order. -/
def lastB (ops : Array Oper) (j : Nat) : Bool := (List.range ops.size).all fun i => Nat.beq i j || (List.range ops.size).any fun m => Nat.blt i m && Region.waitsFor .any ops m i
theorem last_listed {listed : Array Bool} {n j : Nat} {oj : Oper} (inv : HeadInv .any ops n listed) (hl : lastB ops j = true) (hoj : ops[j]? = some oj)
    (hj : ∀ e ∈ oj.after, Region.binds .any e = true → listed.getD e.on false = true) : ∀ (d i : Nat), ops.size - i = d → i < ops.size → i ≠ j → listed.getD i false = true := by
  intro d
  induction d using Nat.strongRecOn with
  | _ d ih =>
    intro i hd hi hij
    have h1 := List.all_eq_true.1 hl i (List.mem_range.2 hi)
    simp only [Bool.or_eq_true] at h1
    rcases h1 with h1 | h1
    · exact absurd (Nat.eq_of_beq_eq_true h1) hij
    · obtain ⟨m, hm, h2⟩ := List.any_eq_true.1 h1
      simp only [Bool.and_eq_true, Nat.blt_eq] at h2
      have hms := List.mem_range.1 hm
      obtain ⟨om, hom, e, he, hb, hon⟩ := Region.waitsFor_spec h2.2
      by_cases hmj : m = j
      · subst hmj
        have : om = oj := Option.some.inj (hom.symm.trans hoj)
        subst this
        rw [← hon]; exact hj e he hb
      · have hml := ih (ops.size - m) (by omega) m rfl hms hmj
        rw [← hon]; exact inv.closed m om hom hml e he hb

def anyS (P : Program) (ops : Array Oper) (Q : Exit → Act → World → Prop) (S : World → Prop) : Nat → Array Bool → Act → World → Prop
  | 0, listed, a, w => Region.ready .any ops listed = [] ∧ Q .normal a w
  | fuel + 1, listed, a, w =>
    (Region.ready .any ops listed = [] → Q .normal a w) ∧
    ∀ i ∈ Region.ready .any ops listed, wpOp P ops Q i (fun a' w' => (lastB ops i = true ∨ S w') ∧ anyS P ops Q S fuel (listed.setIfInBounds i true) a' w') a w
theorem any_of_anyS : ∀ (fuel : Nat) (listed : Array Bool) (a : Act) (w : World), anyS P ops Q S fuel listed a w → wpAny P .any ops Q fuel listed a w
  | 0, _, _, _, h => h
  | fuel + 1, _, _, _, h => ⟨h.1, fun i hi => wpOp_mono (fun a' w' h' => any_of_anyS fuel _ a' w' h'.2) (h.2 i hi)⟩
theorem unlisted_of {listed : Array Bool} {i : Nat} (h : listed.getD i true = false) : listed.getD i false = false := getD_both h
theorem anyS_first {i : Nat} {oi : Oper} {v : Value} (hi : ops[i]? = some oi) (hsel : ∀ (j : Nat) (o : Oper) cs b, ops[j]? = some o → o.op ≠ .select cs b)
    (hQ : ∀ c a w, Q (.panic c) (a.put oi.dst v) w → Q (.panic c) a w) :
    ∀ (fuel : Nat) (listed : Array Bool) (a : Act) (w : World), HeadInv .any ops ops.size listed →
      (∀ j oj, ops[j]? = some oj → j ≠ i → listed.getD j true = false → (∀ e ∈ oj.after, Region.binds .any e = true → e.on ≠ i) → oi.apart ops oj = true) →
      i ∈ Region.ready .any ops listed → YieldsIf P ops S oi v a → S w →
      anyS P ops Q S fuel (listed.setIfInBounds i true) (a.put oi.dst v) w → anyS P ops Q S (fuel + 1) listed a w := by
  have hisz : i < ops.size := (Array.getElem?_eq_some_iff.1 hi).1
  intro fuel
  induction fuel with
  | zero =>
    intro listed a w inv _ hr hy hS H
    refine ⟨fun h => (by rw [h] at hr; cases hr), fun j hj => ?_⟩
    by_cases hji : j = i
    · subst hji; exact hy.wpOp hi hS ⟨.inr hS, H⟩
    · have := ready_mono hj hji
      rw [H.1] at this
      cases this
  | succ fuel ih =>
    intro listed a w inv hfree hr hy hS H
    refine ⟨fun h => (by rw [h] at hr; cases hr), fun j hj => ?_⟩
    by_cases hji : j = i
    · subst hji; exact hy.wpOp hi hS ⟨.inr hS, H⟩
    · have h1 := H.2 j (ready_mono hj hji)
      obtain ⟨hjun, oj, hoj, hall⟩ := mem_ready.1 hj
      have hiun := getD_both (mem_ready.1 hr).1
      have hnot : ∀ e ∈ oj.after, Region.binds .any e = true → e.on ≠ i := fun e he hb heq => by
        have h1 := hall e he hb
        rw [heq, hiun] at h1; cases h1
      have hnl : lastB ops j = true → False := fun hl => by
        have h2 := last_listed inv hl hoj hall _ i rfl hisz (Ne.symm hji)
        rw [hiun] at h2; cases h2
      have h2 := wpOp_putIf hoj (hfree j oj hoj hji hjun hnot) (fun cs b => hsel i oi cs b hi) (fun cs b => hsel j oj cs b hoj) hQ hy h1
      have hfree' : ∀ k ok, ops[k]? = some ok → k ≠ i → (listed.setIfInBounds j true).getD k true = false →
          (∀ e ∈ ok.after, Region.binds .any e = true → e.on ≠ i) → oi.apart ops ok = true := fun k ok hk hki hun hno => by
        refine hfree k ok hk hki ?_ hno
        by_cases hjk : j = k
        · subst hjk; exact hjun
        · rw [getD_set_ne true hjk] at hun; exact hun
      refine wpOp_mono (fun a' w' h3 => ?_) h2
      have hS' : S w' := h3.2.1.resolve_left fun hl => hnl hl
      refine ⟨.inr hS', ih (listed.setIfInBounds j true) a' w' (inv.set hj (by have := (mem_ready.1 hj).2; obtain ⟨o, ho, _⟩ := this; exact (Array.getElem?_eq_some_iff.1 ho).1)) hfree' (ready_mono hr (Ne.symm hji)) h3.1 hS' ?_⟩
      rw [Array.setIfInBounds_comm _ _ hji]
      exact h3.2.2

def lastOf : List (Nat × Bool) → Bool → Bool
  | [], b => b
  | _ :: _, _ => false
theorem lastOf_spec {l : List (Nat × Bool)} {b : Bool} (h : lastOf l b = true) : l = [] ∧ b = true := by cases l with
  | nil => exact ⟨rfl, h⟩
  | cons x r => cases h
/-- The canonical order: (i, true): number i reads and is taken first; (i, false): number i is the one that may come. -/
def wHeld (P : Program) (ty : Nat → Sh) (N : Nat) (ops : Array Oper) (S : World → Prop) : List (Nat × Bool) → Array Bool → Env → World → (Env → World → Prop) → Prop
  | [], listed, e, w, K => match Region.ready .any ops listed with
    | [] => K e w
    | _ => False
  | (i, true) :: r, listed, e, w, K => match ops[i]? with
    | none => False
    | some o => match Region.free .any ops listed i with
      | false => False
      | true => match (Region.ready .any ops listed).contains i with
        | false => False
        | true => wGuard P ty N (.held S) ops.toList o e w fun e' w' => wHeld P ty N ops S r (listed.setIfInBounds i true) e' w' K
  | (i, false) :: r, listed, e, w, K => match ops[i]? with
    | none => False
    | some o => match Region.ready .any ops listed with
      | [j] => match Nat.beq j i with
        | false => False
        | true => match lastOf r (lastB ops i) with
          | true => wGuard P ty N .full ops.toList o e w fun e' w' => wHeld P ty N ops S r (listed.setIfInBounds i true) e' w' K
          | false => wGuard P ty N .full ops.toList o e w fun e' w' => S w' ∧ wHeld P ty N ops S r (listed.setIfInBounds i true) e' w' K
      | _ => False

def noPan (Q : Exit → Act → World → Prop) : Exit → Act → World → Prop
  | .panic _, _, _ => False
  | e, a, w => Q e a w

theorem wStep_held {o : Oper} {e : Env} {a : Act} {w : World} {K : Env → World → Prop}
    (h : wStep P ty N (.held S) o e w K) (hs : Sub N e a) : ∃ v b, K (put e o.dst (v, b)) w ∧ fits N o.dst = true ∧ ∀ w2, S w2 → (execOp a.eval o).run P w2 = .ok (.value v) w2 :=
  wStep_open h hs (fun v b hK hf hr => ⟨v, b, hK, hf, fun w2 _ => hr w2⟩)
    (fun l ho hl hf h => by
      obtain ⟨v, b, hK, hr⟩ := h
      exact ⟨v, b, hK, hf, fun w2 hS => by rw [hs.exec ho hl]; exact hr w2 hS⟩)

theorem wHeld_sound (hsel : Region.noSelect ops = true) : ∀ (l : List (Nat × Bool)) (listed : Array Bool) (e : Env) (a : Act) (w : World) (K : Env → World → Prop) (wr : List Nat),
    (∀ i b, (i, b) ∈ l → ∀ o, ops[i]? = some o → ∀ d, o.dst = some d → memN d wr = true) →
    wHeld P ty N ops S l listed e w K → HeadInv .any ops ops.size listed → Sub N e a → (S w ∨ l = []) → (∀ e' w' a', K e' w' → Ext wr e e' → Sub N e' a' → Q .normal a' w') →
    anyS P ops (noPan Q) S l.length listed a w
  | [], listed, e, a, w, K, wr, hwr, h, inv, hs, hS, hk => by
    simp only [wHeld] at h
    split at h
    · rename_i hr; exact ⟨hr, hk _ _ _ h (.refl _ _) hs⟩
    · exact h.elim
  | (i, true) :: r, listed, e, a, w, K, wr, hwr, h, inv, hs, hS, hk => by
    have hS : S w := hS.resolve_right (by simp)
    simp only [wHeld] at h
    split at h
    · exact h.elim
    rename_i o ho
    split at h
    · exact h.elim
    rename_i hf
    split at h
    · exact h.elim
    rename_i hr
    have hr' : i ∈ Region.ready .any ops listed := by simpa using hr
    have hin : i < ops.size := (Array.getElem?_eq_some_iff.1 ho).1
    have hd : ∀ t, memN t wr = false → memN t o.dst.toList = false := fun t ht => by
      cases hdst : o.dst with
      | none => rfl
      | some d =>
        have := hwr i true (by simp) o ho d hdst
        have hne : d ≠ t := by rintro rfl; rw [this] at ht; cases ht
        simp only [Option.toList, memN]
        cases hb : Nat.beq d t with
        | true => exact absurd (Nat.eq_of_beq_eq_true hb) hne
        | false => rfl
    have hops : ops = ops.toList.toArray := by simp
    refine wGuard_open h hs (fun e1 he hs hw h => ?_) (fun e1 he hs hfit hw h => ?_)
    · obtain ⟨v, b, hK, hfit, hrun⟩ := wStep_held h hs
      refine anyS_first ho (Region.noSelect_spec hsel) (fun c a w hh => hh) _ _ _ _ inv (Region.free_spec ho hf) hr' (.inl ⟨by rw [hops]; exact hw, hrun⟩) hS ?_
      refine wHeld_sound hsel r _ _ _ _ K wr (fun i b hm => hwr i b (by simp [hm])) hK (inv.set hr' hin) (hs.put (v := (v, b)) hfit) (.inl hS) fun e' w' a' h1 h2 h3 => hk _ _ _ h1 ?_ h3
      exact ((he.mono fun _ _ => rfl).trans' ((Ext.put e1 o.dst (v, b)).mono hd)).trans' h2
    · refine anyS_first ho (Region.noSelect_spec hsel) (fun c a w hh => hh) _ _ _ _ inv (Region.free_spec ho hf) hr' (.inr ⟨by rw [hops]; exact hw, rfl⟩) hS ?_
      refine wHeld_sound hsel r _ _ _ _ K wr (fun i b hm => hwr i b (by simp [hm])) h (inv.set hr' hin) (hs.put (v := (undef, false)) hfit) (.inl hS) fun e' w' a' h1 h2 h3 => hk _ _ _ h1 ?_ h3
      exact ((he.mono fun _ _ => rfl).trans' ((Ext.put e1 o.dst (undef, false)).mono hd)).trans' h2
  | (i, false) :: r, listed, e, a, w, K, wr, hwr, h, inv, hs, hS, hk => by
    have hS : S w := hS.resolve_right (by simp)
    simp only [wHeld] at h
    split at h
    · exact h.elim
    rename_i o ho
    split at h
    · rename_i j hr
      split at h
      · exact h.elim
      rename_i hji
      have hji := Nat.eq_of_beq_eq_true hji
      subst hji
      have hr' : j ∈ Region.ready .any ops listed := by rw [hr]; simp
      have hin : j < ops.size := (Array.getElem?_eq_some_iff.1 ho).1
      have hd : ∀ t, memN t wr = false → memN t o.dst.toList = false := fun t ht => by
        cases hdst : o.dst with
        | none => rfl
        | some d =>
          have := hwr j false (by simp) o ho d hdst
          have hne : d ≠ t := by rintro rfl; rw [this] at ht; cases ht
          simp only [Option.toList, memN]
          cases hb : Nat.beq d t with
          | true => exact absurd (Nat.eq_of_beq_eq_true hb) hne
          | false => rfl
      have hops : ops = ops.toList.toArray := by simp
      have key : ∀ (K2 : Env → World → Prop), (∀ e' w', K2 e' w' → (lastB ops j = true ∨ S w') ∧ (S w' ∨ r = []) ∧ wHeld P ty N ops S r (listed.setIfInBounds j true) e' w' K) →
          wGuard P ty N .full ops.toList o e w K2 → wpOp P ops (noPan Q) j (fun a' w' => (lastB ops j = true ∨ S w') ∧ anyS P ops (noPan Q) S r.length (listed.setIfInBounds j true) a' w') a w := fun K2 hK2 h => by
        unfold wpOp
        simp only [ho]
        refine wGuard_open h hs (fun e1 he hs hw h => ?_) (fun e1 he hs hfit hw h => ?_)
        · rw [if_pos (by rw [hops]; exact hw)]
          refine .inl (wStep_sound h hs fun v w' a' hh hs' => ?_)
          obtain ⟨g1, g2, g3⟩ := hK2 _ _ hh
          exact ⟨g1, wHeld_sound hsel r _ _ _ _ K wr (fun i b hm => hwr i b (by simp [hm])) g3 (inv.set hr' hin) hs' g2 fun e' w' a' h1 h2 h3 => hk _ _ _ h1 (((he.mono fun _ _ => rfl).trans' ((Ext.put e1 o.dst v).mono hd)).trans' h2) h3⟩
        · rw [if_neg (by rw [hops]; simp [hw])]
          obtain ⟨g1, g2, g3⟩ := hK2 _ _ h
          exact ⟨g1, wHeld_sound hsel r _ _ _ _ K wr (fun i b hm => hwr i b (by simp [hm])) g3 (inv.set hr' hin) (hs.put (v := (undef, false)) hfit) g2 fun e' w' a' h1 h2 h3 => hk _ _ _ h1 (((he.mono fun _ _ => rfl).trans' ((Ext.put e1 o.dst (undef, false)).mono hd)).trans' h2) h3⟩
      refine ⟨fun h0 => (by rw [h0] at hr'; cases hr'), fun i hi => ?_⟩
      have hij : i = j := by rw [hr] at hi; simpa using hi
      subst hij
      split at h
      · rename_i hl
        obtain ⟨h1, h2⟩ := lastOf_spec hl
        exact key _ (fun e' w' hh => ⟨.inl h2, .inr h1, hh⟩) h
      · exact key _ (fun e' w' hh => ⟨.inr hh.1, .inl hh.1, hh.2⟩) h
    · exact h.elim

/-! ### .. and where an effect that waits for every read ends what the reads ask of the world -/
/-- Number j waits for each that reads the memory. -/
def clearB (ops : Array Oper) (H : List Nat) (j : Nat) : Bool := H.all fun i => Region.waitsFor .any ops j i
def anyC (P : Program) (ops : Array Oper) (Q : Exit → Act → World → Prop) (S : World → Prop) (H : List Nat) : Nat → Bool → Array Bool → Act → World → Prop
  | 0, _, listed, a, w => Region.ready .any ops listed = [] ∧ Q .normal a w
  | fuel + 1, ok, listed, a, w =>
    (Region.ready .any ops listed = [] → Q .normal a w) ∧
    ∀ i ∈ Region.ready .any ops listed, wpOp P ops Q i (fun a' w' => (ok = true ∧ S w' ∧ anyC P ops Q S H fuel true (listed.setIfInBounds i true) a' w') ∨ ((ok = true → clearB ops H i = true) ∧ anyC P ops Q S H fuel false (listed.setIfInBounds i true) a' w')) a w
theorem any_of_anyC {H : List Nat} : ∀ (fuel : Nat) (ok : Bool) (listed : Array Bool) (a : Act) (w : World), anyC P ops Q S H fuel ok listed a w → wpAny P .any ops Q fuel listed a w
  | 0, _, _, _, _, h => h
  | fuel + 1, _, _, _, _, h => ⟨h.1, fun i hi => wpOp_mono (fun a' w' h' => by
      rcases h' with ⟨_, _, h'⟩ | ⟨_, h'⟩
      · exact any_of_anyC fuel _ _ a' w' h'
      · exact any_of_anyC fuel _ _ a' w' h') (h.2 i hi)⟩
theorem anyC_first {H : List Nat} {S' : World → Prop} {i : Nat} {oi : Oper} {v : Value} (hi : ops[i]? = some oi) (hsel : ∀ (j : Nat) (o : Oper) cs b, ops[j]? = some o → o.op ≠ .select cs b)
    (hQ : ∀ c a w, Q (.panic c) (a.put oi.dst v) w → Q (.panic c) a w) :
    ∀ (fuel : Nat) (ok : Bool) (listed : Array Bool) (a : Act) (w : World), HeadInv .any ops ops.size listed →
      (∀ j oj, ops[j]? = some oj → j ≠ i → listed.getD j true = false → (∀ e ∈ oj.after, Region.binds .any e = true → e.on ≠ i) → oi.apart ops oj = true) →
      i ∈ Region.ready .any ops listed → YieldsIf P ops S' oi v a → ((∀ w, S' w) ∨ ((∀ w, S w → S' w) ∧ i ∈ H ∧ ok = true)) → (ok = true → S w) →
      anyC P ops Q S H fuel ok (listed.setIfInBounds i true) (a.put oi.dst v) w → anyC P ops Q S H (fuel + 1) ok listed a w := by
  have hisz : i < ops.size := (Array.getElem?_eq_some_iff.1 hi).1
  have own : ∀ {ok : Bool} {w : World}, ((∀ w, S' w) ∨ ((∀ w, S w → S' w) ∧ i ∈ H ∧ ok = true)) → (ok = true → S w) → S' w := fun hk hS => by
    rcases hk with hk | ⟨hk, _, h⟩
    · exact hk _
    · exact hk _ (hS h)
  intro fuel
  induction fuel with
  | zero =>
    intro ok listed a w inv _ hr hy hk hS h0
    refine ⟨fun h => (by rw [h] at hr; cases hr), fun j hj => ?_⟩
    by_cases hji : j = i
    · subst hji
      refine hy.wpOp hi (own hk hS) ?_
      cases ok
      · exact .inr ⟨fun h => (by cases h), h0⟩
      · exact .inl ⟨rfl, hS rfl, h0⟩
    · have := ready_mono hj hji
      rw [h0.1] at this
      cases this
  | succ fuel ih =>
    intro ok listed a w inv hfree hr hy hk hS h0
    refine ⟨fun h => (by rw [h] at hr; cases hr), fun j hj => ?_⟩
    by_cases hji : j = i
    · subst hji
      refine hy.wpOp hi (own hk hS) ?_
      cases ok
      · exact .inr ⟨fun h => (by cases h), h0⟩
      · exact .inl ⟨rfl, hS rfl, h0⟩
    · have h1 := h0.2 j (ready_mono hj hji)
      obtain ⟨hjun, oj, hoj, hall⟩ := mem_ready.1 hj
      have hiun := getD_both (mem_ready.1 hr).1
      have hnot : ∀ e ∈ oj.after, Region.binds .any e = true → e.on ≠ i := fun e he hb heq => by
        have h1 := hall e he hb
        rw [heq, hiun] at h1; cases h1
      have hnc : i ∈ H → clearB ops H j = true → False := fun hm hl => by
        have h2 := List.all_eq_true.1 hl i hm
        obtain ⟨om, hom, e, he, hb, hon⟩ := Region.waitsFor_spec h2
        have : om = oj := Option.some.inj (hom.symm.trans hoj)
        subst this
        exact hnot e he hb hon
      have h2 := wpOp_putIf hoj (hfree j oj hoj hji hjun hnot) (fun cs b => hsel i oi cs b hi) (fun cs b => hsel j oj cs b hoj) hQ hy h1
      have hfree' : ∀ k ok, ops[k]? = some ok → k ≠ i → (listed.setIfInBounds j true).getD k true = false →
          (∀ e ∈ ok.after, Region.binds .any e = true → e.on ≠ i) → oi.apart ops ok = true := fun k ok hk hki hun hno => by
        refine hfree k ok hk hki ?_ hno
        by_cases hjk : j = k
        · subst hjk; exact hjun
        · rw [getD_set_ne true hjk] at hun; exact hun
      have inv' := inv.set hj (by have := (mem_ready.1 hj).2; obtain ⟨o, ho, _⟩ := this; exact (Array.getElem?_eq_some_iff.1 ho).1)
      refine wpOp_mono (fun a' w' h3 => ?_) h2
      rcases h3.2 with ⟨hok, hS', hA⟩ | ⟨hcl, hA⟩
      · refine .inl ⟨hok, hS', ih true (listed.setIfInBounds j true) a' w' inv' hfree' (ready_mono hr (Ne.symm hji)) h3.1 (hk.imp id fun h => ⟨h.1, h.2.1, rfl⟩) (fun _ => hS') ?_⟩
        rw [Array.setIfInBounds_comm _ _ hji]
        exact hA
      · refine .inr ⟨hcl, ih false (listed.setIfInBounds j true) a' w' inv' hfree' (ready_mono hr (Ne.symm hji)) h3.1 (.inl ?_) (fun h => (by cases h)) ?_⟩
        · rcases hk with hk | ⟨_, hm, hok⟩
          · exact hk
          · exact (hnc hm (hcl hok)).elim
        · rw [Array.setIfInBounds_comm _ _ hji]
          exact hA
/-- The canonical order, as 'wHeld'; H: those that read the memory; 'ok': no effect has ended what they ask. -/
def wHeldC (P : Program) (ty : Nat → Sh) (N : Nat) (ops : Array Oper) (S : World → Prop) (H : List Nat) : List (Nat × Bool) → Bool → Array Bool → Env → World → (Env → World → Prop) → Prop
  | [], _, listed, e, w, K => match Region.ready .any ops listed with
    | [] => K e w
    | _ => False
  | (i, true) :: r, ok, listed, e, w, K => match ops[i]? with
    | none => False
    | some o => match Region.free .any ops listed i with
      | false => False
      | true => match (Region.ready .any ops listed).contains i with
        | false => False
        | true => match H.contains i with
          | true => match ok with
            | false => False
            | true => wGuard P ty N (.held S) ops.toList o e w fun e' w' => wHeldC P ty N ops S H r true (listed.setIfInBounds i true) e' w' K
          | false => wGuard P ty N (.held fun _ => True) ops.toList o e w fun e' w' => wHeldC P ty N ops S H r ok (listed.setIfInBounds i true) e' w' K
  | (i, false) :: r, ok, listed, e, w, K => match ops[i]? with
    | none => False
    | some o => match Region.ready .any ops listed with
      | [j] => match Nat.beq j i with
        | false => False
        | true => match clearB ops H i with
          | true => wGuard P ty N .full ops.toList o e w fun e' w' => wHeldC P ty N ops S H r false (listed.setIfInBounds i true) e' w' K
          | false => match ok with
            | false => False
            | true => wGuard P ty N .full ops.toList o e w fun e' w' => S w' ∧ wHeldC P ty N ops S H r true (listed.setIfInBounds i true) e' w' K
      | _ => False
theorem wHeldC_sound {H : List Nat} (hsel : Region.noSelect ops = true) : ∀ (l : List (Nat × Bool)) (ok : Bool) (listed : Array Bool) (e : Env) (a : Act) (w : World) (K : Env → World → Prop) (wr : List Nat),
    (∀ i b, (i, b) ∈ l → ∀ o, ops[i]? = some o → ∀ d, o.dst = some d → memN d wr = true) →
    wHeldC P ty N ops S H l ok listed e w K → HeadInv .any ops ops.size listed → Sub N e a → (ok = true → S w) → (∀ e' w' a', K e' w' → Ext wr e e' → Sub N e' a' → Q .normal a' w') →
    anyC P ops (noPan Q) S H l.length ok listed a w
  | [], ok, listed, e, a, w, K, wr, hwr, h, inv, hs, hS, hk => by
    simp only [wHeldC] at h
    split at h
    · rename_i hr; exact ⟨hr, hk _ _ _ h (.refl _ _) hs⟩
    · exact h.elim
  | (i, true) :: r, ok, listed, e, a, w, K, wr, hwr, h, inv, hs, hS, hk => by
    simp only [wHeldC] at h
    split at h
    · exact h.elim
    rename_i o ho
    split at h
    · exact h.elim
    rename_i hf
    split at h
    · exact h.elim
    rename_i hr
    have hr' : i ∈ Region.ready .any ops listed := by simpa using hr
    have hin : i < ops.size := (Array.getElem?_eq_some_iff.1 ho).1
    have hd : ∀ t, memN t wr = false → memN t o.dst.toList = false := fun t ht => by
      cases hdst : o.dst with
      | none => rfl
      | some d =>
        have := hwr i true (by simp) o ho d hdst
        have hne : d ≠ t := by rintro rfl; rw [this] at ht; cases ht
        simp only [Option.toList, memN]
        cases hb : Nat.beq d t with
        | true => exact absurd (Nat.eq_of_beq_eq_true hb) hne
        | false => rfl
    have hops : ops = ops.toList.toArray := by simp
    have key : ∀ (S' : World → Prop), ((∀ w, S' w) ∨ ((∀ w, S w → S' w) ∧ i ∈ H ∧ ok = true)) →
        (wGuard P ty N (.held S') ops.toList o e w fun e' w' => wHeldC P ty N ops S H r ok (listed.setIfInBounds i true) e' w' K) → anyC P ops (noPan Q) S H ((i, true) :: r).length ok listed a w := fun S' hk' h => by
      refine wGuard_open h hs (fun e1 he hs hw h => ?_) (fun e1 he hs hfit hw h => ?_)
      · obtain ⟨v, b, hK, hfit, hrun⟩ := wStep_held h hs
        refine anyC_first ho (Region.noSelect_spec hsel) (fun c a w hh => hh) _ _ _ _ _ inv (Region.free_spec ho hf) hr' (.inl ⟨by rw [hops]; exact hw, hrun⟩) hk' hS ?_
        refine wHeldC_sound hsel r _ _ _ _ _ K wr (fun i b hm => hwr i b (by simp [hm])) hK (inv.set hr' hin) (hs.put (v := (v, b)) hfit) hS fun e' w' a' h1 h2 h3 => hk _ _ _ h1 ?_ h3
        exact ((he.mono fun _ _ => rfl).trans' ((Ext.put e1 o.dst (v, b)).mono hd)).trans' h2
      · refine anyC_first ho (Region.noSelect_spec hsel) (fun c a w hh => hh) _ _ _ _ _ inv (Region.free_spec ho hf) hr' (.inr ⟨by rw [hops]; exact hw, rfl⟩) hk' hS ?_
        refine wHeldC_sound hsel r _ _ _ _ _ K wr (fun i b hm => hwr i b (by simp [hm])) h (inv.set hr' hin) (hs.put (v := (undef, false)) hfit) hS fun e' w' a' h1 h2 h3 => hk _ _ _ h1 ?_ h3
        exact ((he.mono fun _ _ => rfl).trans' ((Ext.put e1 o.dst (undef, false)).mono hd)).trans' h2
    split at h
    · rename_i hm
      cases ok
      · exact h.elim
      · exact key S (.inr ⟨fun _ h => h, by simpa using hm, rfl⟩) h
    · exact key (fun _ => True) (.inl fun _ => trivial) h
  | (i, false) :: r, ok, listed, e, a, w, K, wr, hwr, h, inv, hs, hS, hk => by
    simp only [wHeldC] at h
    split at h
    · exact h.elim
    rename_i o ho
    split at h
    · rename_i j hr
      split at h
      · exact h.elim
      rename_i hji
      have hji := Nat.eq_of_beq_eq_true hji
      subst hji
      have hr' : j ∈ Region.ready .any ops listed := by rw [hr]; simp
      have hin : j < ops.size := (Array.getElem?_eq_some_iff.1 ho).1
      have hd : ∀ t, memN t wr = false → memN t o.dst.toList = false := fun t ht => by
        cases hdst : o.dst with
        | none => rfl
        | some d =>
          have := hwr j false (by simp) o ho d hdst
          have hne : d ≠ t := by rintro rfl; rw [this] at ht; cases ht
          simp only [Option.toList, memN]
          cases hb : Nat.beq d t with
          | true => exact absurd (Nat.eq_of_beq_eq_true hb) hne
          | false => rfl
      have hops : ops = ops.toList.toArray := by simp
      have key : ∀ (ok' : Bool) (K2 : Env → World → Prop), (ok' = true → ok = true) → (ok' = false → ok = true → clearB ops H j = true) → (∀ e' w', K2 e' w' → (ok' = true → S w') ∧ wHeldC P ty N ops S H r ok' (listed.setIfInBounds j true) e' w' K) →
          wGuard P ty N .full ops.toList o e w K2 → wpOp P ops (noPan Q) j (fun a' w' => (ok = true ∧ S w' ∧ anyC P ops (noPan Q) S H r.length true (listed.setIfInBounds j true) a' w') ∨ ((ok = true → clearB ops H j = true) ∧ anyC P ops (noPan Q) S H r.length false (listed.setIfInBounds j true) a' w')) a w := fun ok' K2 hok hcl hK2 h => by
        have fin : ∀ {a' : Act} {w' : World}, (ok' = true → S w') → anyC P ops (noPan Q) S H r.length ok' (listed.setIfInBounds j true) a' w' →
            (ok = true ∧ S w' ∧ anyC P ops (noPan Q) S H r.length true (listed.setIfInBounds j true) a' w') ∨ ((ok = true → clearB ops H j = true) ∧ anyC P ops (noPan Q) S H r.length false (listed.setIfInBounds j true) a' w') := fun h1 h2 => by
          cases ok'
          · exact .inr ⟨hcl rfl, h2⟩
          · exact .inl ⟨hok rfl, h1 rfl, h2⟩
        unfold wpOp
        simp only [ho]
        refine wGuard_open h hs (fun e1 he hs hw h => ?_) (fun e1 he hs hfit hw h => ?_)
        · rw [if_pos (by rw [hops]; exact hw)]
          refine .inl (wStep_sound h hs fun v w' a' hh hs' => ?_)
          obtain ⟨g1, g3⟩ := hK2 _ _ hh
          exact fin g1 (wHeldC_sound hsel r _ _ _ _ _ K wr (fun i b hm => hwr i b (by simp [hm])) g3 (inv.set hr' hin) hs' g1 fun e' w' a' h1 h2 h3 => hk _ _ _ h1 (((he.mono fun _ _ => rfl).trans' ((Ext.put e1 o.dst v).mono hd)).trans' h2) h3)
        · rw [if_neg (by rw [hops]; simp [hw])]
          obtain ⟨g1, g3⟩ := hK2 _ _ h
          exact fin g1 (wHeldC_sound hsel r _ _ _ _ _ K wr (fun i b hm => hwr i b (by simp [hm])) g3 (inv.set hr' hin) (hs.put (v := (undef, false)) hfit) g1 fun e' w' a' h1 h2 h3 => hk _ _ _ h1 (((he.mono fun _ _ => rfl).trans' ((Ext.put e1 o.dst (undef, false)).mono hd)).trans' h2) h3)
      refine ⟨fun h0 => (by rw [h0] at hr'; cases hr'), fun i hi => ?_⟩
      have hij : i = j := by rw [hr] at hi; simpa using hi
      subst hij
      split at h
      · rename_i hc
        exact key false _ (fun h => (by cases h)) (fun _ _ => hc) (fun e' w' hh => ⟨fun h => (by cases h), hh⟩) h
      · cases ok
        · exact h.elim
        · exact key true _ (fun h => h) (fun h => (by cases h)) (fun e' w' hh => ⟨fun _ => hh.1, hh.2⟩) h
    · exact h.elim

/-- An order in which effects may come in more than one row: done; number i reads and is taken first; number i may come (then 'r'), or the next of those that may come (then 'o'). -/
inductive Ord where
  | done
  | rd (i : Nat) (r : Ord)
  | ef (i : Nat) (r o : Ord)
def pickL : Option (List Nat) → List Nat → List Nat
  | some l, _ => l
  | none, d => d
def lastT : Ord → Bool → Bool
  | .done, b => b
  | _, _ => false
theorem lastT_spec {t : Ord} {b : Bool} (h : lastT t b = true) : t = .done ∧ b = true := by
  cases t with
  | done => exact ⟨rfl, h⟩
  | rd i r => cases h
  | ef i r o => cases h
def wTree (P : Program) (ty : Nat → Sh) (N : Nat) (ops : Array Oper) (S : World → Prop) : Ord → Option (List Nat) → Nat → Array Bool → Env → World → (Env → World → Prop) → Prop
  | .done, alts, n, listed, e, w, K => match alts with
    | none => match n with
      | 0 => match Region.ready .any ops listed with
        | [] => K e w
        | _ => False
      | _ + 1 => False
    | some l => match l with
      | [] => True
      | _ => False
  | .rd i r, alts, n, listed, e, w, K => match alts with
    | some _ => False
    | none => match n with
      | 0 => False
      | n + 1 => match ops[i]? with
        | none => False
        | some o => match Region.free .any ops listed i with
          | false => False
          | true => match (Region.ready .any ops listed).contains i with
            | false => False
            | true => wGuard P ty N (.held S) ops.toList o e w fun e' w' => wTree P ty N ops S r none n (listed.setIfInBounds i true) e' w' K
  | .ef i r o2, alts, n, listed, e, w, K => match n with
    | 0 => False
    | n + 1 => match ops[i]? with
      | none => False
      | some o => match pickL alts (Region.ready .any ops listed) with
        | j :: rest => match Nat.beq j i with
          | false => False
          | true => match rest with
            | [] => match lastT r (lastB ops i) with
              | true => wGuard P ty N .full ops.toList o e w fun e' w' => wTree P ty N ops S r none n (listed.setIfInBounds i true) e' w' K
              | false => wGuard P ty N .full ops.toList o e w fun e' w' => S w' ∧ wTree P ty N ops S r none n (listed.setIfInBounds i true) e' w' K
            | _ => (wGuard P ty N .full ops.toList o e w fun e' w' => S w' ∧ wTree P ty N ops S r none n (listed.setIfInBounds i true) e' w' K) ∧ wTree P ty N ops S o2 (some rest) (n + 1) listed e w K
        | [] => False

theorem wTree_sound (hsel : Region.noSelect ops = true) (wr : List Nat) (hwr : ∀ (i : Nat) (o : Oper), ops[i]? = some o → ∀ d, o.dst = some d → memN d wr = true) :
    ∀ (t : Ord) (alts : Option (List Nat)) (n : Nat) (listed : Array Bool) (e : Env) (a : Act) (w : World) (K : Env → World → Prop),
    wTree P ty N ops S t alts n listed e w K → HeadInv .any ops ops.size listed → Sub N e a → (S w ∨ n = 0) → (∀ e' w' a', K e' w' → Ext wr e e' → Sub N e' a' → Q .normal a' w') →
    match alts with
    | none => anyS P ops (noPan Q) S n listed a w
    | some l => (∀ j ∈ l, j ∈ Region.ready .any ops listed) → ∀ j ∈ l, wpOp P ops (noPan Q) j (fun a' w' => (lastB ops j = true ∨ S w') ∧ anyS P ops (noPan Q) S (n - 1) (listed.setIfInBounds j true) a' w') a w
  | .done, alts, n, listed, e, a, w, K, h, inv, hs, hS, hk => by
    cases alts with
    | none =>
      cases n with
      | zero =>
        simp only [wTree] at h
        split at h
        · rename_i hr; exact ⟨hr, hk _ _ _ h (.refl _ _) hs⟩
        · exact h.elim
      | succ n => exact h.elim
    | some l =>
      cases l with
      | nil => intro _ j hj; cases hj
      | cons x l => exact h.elim
  | .rd i r, alts, n, listed, e, a, w, K, h, inv, hs, hS, hk => by
    cases alts with
    | some l => exact h.elim
    | none =>
      cases n with
      | zero => exact h.elim
      | succ n =>
        have hS : S w := hS.resolve_right (by simp)
        simp only [wTree] at h
        split at h
        · exact h.elim
        rename_i o ho
        split at h
        · exact h.elim
        rename_i hf
        split at h
        · exact h.elim
        rename_i hr
        have hr' : i ∈ Region.ready .any ops listed := by simpa using hr
        have hin : i < ops.size := (Array.getElem?_eq_some_iff.1 ho).1
        have hd : ∀ t, memN t wr = false → memN t o.dst.toList = false := fun t ht => by
          cases hdst : o.dst with
          | none => rfl
          | some d =>
            have := hwr i o ho d hdst
            have hne : d ≠ t := by rintro rfl; rw [this] at ht; cases ht
            simp only [Option.toList, memN]
            cases hb : Nat.beq d t with
            | true => exact absurd (Nat.eq_of_beq_eq_true hb) hne
            | false => rfl
        have hops : ops = ops.toList.toArray := by simp
        show anyS P ops (noPan Q) S (n + 1) listed a w
        refine wGuard_open h hs (fun e1 he hs hw h => ?_) (fun e1 he hs hfit hw h => ?_)
        · obtain ⟨v, b, hK, hfit, hrun⟩ := wStep_held h hs
          refine anyS_first ho (Region.noSelect_spec hsel) (fun c a w hh => hh) _ _ _ _ inv (Region.free_spec ho hf) hr' (.inl ⟨by rw [hops]; exact hw, hrun⟩) hS ?_
          refine wTree_sound hsel wr hwr r none n _ _ _ _ K hK (inv.set hr' hin) (hs.put (v := (v, b)) hfit) (.inl hS) fun e' w' a' h1 h2 h3 => hk _ _ _ h1 ?_ h3
          exact ((he.mono fun _ _ => rfl).trans' ((Ext.put e1 o.dst (v, b)).mono hd)).trans' h2
        · refine anyS_first ho (Region.noSelect_spec hsel) (fun c a w hh => hh) _ _ _ _ inv (Region.free_spec ho hf) hr' (.inr ⟨by rw [hops]; exact hw, rfl⟩) hS ?_
          refine wTree_sound hsel wr hwr r none n _ _ _ _ K h (inv.set hr' hin) (hs.put (v := (undef, false)) hfit) (.inl hS) fun e' w' a' h1 h2 h3 => hk _ _ _ h1 ?_ h3
          exact ((he.mono fun _ _ => rfl).trans' ((Ext.put e1 o.dst (undef, false)).mono hd)).trans' h2
  | .ef i r o2, alts, n, listed, e, a, w, K, h, inv, hs, hS, hk => by
    cases n with
    | zero => exact h.elim
    | succ n =>
      have hS : S w := hS.resolve_right (by simp)
      have hops : ops = ops.toList.toArray := by simp
      -- what the chain says of every one of a list
      have chain : ∀ l : List Nat, (∀ j ∈ l, j ∈ Region.ready .any ops listed) → (pickL alts (Region.ready .any ops listed) = l →
          ∀ j ∈ l, wpOp P ops (noPan Q) j (fun a' w' => (lastB ops j = true ∨ S w') ∧ anyS P ops (noPan Q) S n (listed.setIfInBounds j true) a' w') a w) := by
        intro l hl heq
        simp only [wTree] at h
        split at h
        · exact h.elim
        rename_i o ho
        rw [heq] at h
        cases l with
        | nil => exact h.elim
        | cons j rest =>
          simp only at h
          split at h
          · exact h.elim
          rename_i hji
          have hji := Nat.eq_of_beq_eq_true hji
          subst hji
          have hr' : j ∈ Region.ready .any ops listed := hl j (by simp)
          have hin : j < ops.size := (Array.getElem?_eq_some_iff.1 ho).1
          have hd : ∀ t, memN t wr = false → memN t o.dst.toList = false := fun t ht => by
            cases hdst : o.dst with
            | none => rfl
            | some d =>
              have := hwr j o ho d hdst
              have hne : d ≠ t := by rintro rfl; rw [this] at ht; cases ht
              simp only [Option.toList, memN]
              cases hb : Nat.beq d t with
              | true => exact absurd (Nat.eq_of_beq_eq_true hb) hne
              | false => rfl
          have key : ∀ (K2 : Env → World → Prop), (∀ e' w', K2 e' w' → (lastB ops j = true ∨ S w') ∧ (S w' ∨ r = .done) ∧ wTree P ty N ops S r none n (listed.setIfInBounds j true) e' w' K) →
              wGuard P ty N .full ops.toList o e w K2 → wpOp P ops (noPan Q) j (fun a' w' => (lastB ops j = true ∨ S w') ∧ anyS P ops (noPan Q) S n (listed.setIfInBounds j true) a' w') a w := fun K2 hK2 h => by
            have fin : ∀ {e' w' a'}, (S w' ∨ r = .done) → wTree P ty N ops S r none n (listed.setIfInBounds j true) e' w' K → Ext wr e e' → Sub N e' a' → anyS P ops (noPan Q) S n (listed.setIfInBounds j true) a' w' := fun {e' w' a'} g2 g3 hx hs' => by
              refine wTree_sound hsel wr hwr r none n _ _ _ _ K g3 (inv.set hr' hin) hs' ?_ fun e'' w'' a'' h1 h2 h3 => hk _ _ _ h1 (hx.trans' h2) h3
              rcases g2 with g2 | g2
              · exact .inl g2
              · subst g2
                cases n with
                | zero => exact .inr rfl
                | succ n => exact g3.elim
            unfold wpOp
            simp only [ho]
            refine wGuard_open h hs (fun e1 he hs hw h => ?_) (fun e1 he hs hfit hw h => ?_)
            · rw [if_pos (by rw [hops]; exact hw)]
              refine .inl (wStep_sound h hs fun v w' a' hh hs' => ?_)
              obtain ⟨g1, g2, g3⟩ := hK2 _ _ hh
              exact ⟨g1, fin g2 g3 ((he.mono fun _ _ => rfl).trans' ((Ext.put e1 o.dst v).mono hd)) hs'⟩
            · rw [if_neg (by rw [hops]; simp [hw])]
              obtain ⟨g1, g2, g3⟩ := hK2 _ _ h
              exact ⟨g1, fin g2 g3 ((he.mono fun _ _ => rfl).trans' ((Ext.put e1 o.dst (undef, false)).mono hd)) (hs.put (v := (undef, false)) hfit)⟩
          cases rest with
          | nil =>
            simp only at h
            intro i hi
            have hij : i = j := by simpa using hi
            subst hij
            split at h
            · rename_i hl
              obtain ⟨h1, h2⟩ := lastT_spec hl
              exact key _ (fun e' w' hh => ⟨.inl h2, .inr h1, hh⟩) h
            · exact key _ (fun e' w' hh => ⟨.inr hh.1, .inl hh.1, hh.2⟩) h
          | cons x rest =>
            simp only at h
            have hrest := wTree_sound hsel wr hwr o2 (some (x :: rest)) (n + 1) listed e a w K h.2 inv hs (.inl hS) hk (fun k hk => hl k (by simp [hk]))
            intro i hi
            rcases List.mem_cons.1 hi with rfl | hi
            · exact key _ (fun e' w' hh => ⟨.inr hh.1, .inl hh.1, hh.2⟩) h.1
            · exact hrest i hi
      cases alts with
      | none =>
        have hne : Region.ready .any ops listed ≠ [] := fun h0 => by
          simp only [wTree, pickL, h0] at h
          split at h <;> exact h.elim
        exact ⟨fun h0 => absurd h0 hne, fun i hi => chain _ (fun j hj => hj) rfl i hi⟩
      | some l => exact fun hl j hj => chain l hl rfl j hj
end

/-! ### Code -/
inductive Ex where
  | n
  | x (id : Nat)
  | g (l : Nat)
  | r
def Ex.exit : Ex → Exit
  | .n => .normal
  | .x id => .exit id
  | .g l => .goto l
  | .r => .ret
/-- How a region that draws is met: reads and quiet calls; the first so many read; by hand. -/
inductive Dr where
  | quiet
  | tail (n : Nat)
  | held (order : List (Nat × Bool))
  | swap (reads : List Nat) (order : List (Nat × Bool))
  | tree (o : Ord)
  | raw
structure Ann where
  join : List (Nat × List (Nat × Leaf))
  loop : List (Nat × List (Nat × Leaf))
  draw : List (Nat × Dr)
  labs : List (Nat × List (Nat × Leaf)) := []
def look {α : Type} : List (Nat × α) → Nat → Option α
  | [], _ => none
  | (k, v) :: r, i => match Nat.beq k i with
    | true => some v
    | false => look r i
def firstReg : Code → Option Nat
  | .region id _ _ => some id
  | .seq a b => match firstReg a with
    | some i => some i
    | none => firstReg b
  | .block _ c => firstReg c
  | .loop c => firstReg c
  | .scope c => firstReg c
  | .cond _ a b => match firstReg a with
    | some i => some i
    | none => firstReg b
  | _ => none
def writes : Code → List Nat
  | .region _ ops _ => dsts ops.toList
  | .seq a b => writes a ++ writes b
  | .block _ c => writes c
  | .loop c => writes c
  | .scope c => writes c
  | .cond _ a b => writes a ++ writes b
  | _ => []

def inside : List (Nat × Leaf) → List Nat → Bool
  | [], _ => true
  | (s, _) :: r, wr => match memN s wr with
    | true => inside r wr
    | false => false
/-- A relation on some slots' values and a world. -/
def Cur (R : Type) : List (Nat × Leaf) → Type
  | [] => World → R
  | (_, l) :: r => l.T → Cur R r
def castP : (l : Leaf) → Value → (l.T → Prop) → Prop
  | .bool, v, f => match v with
    | .bool x => f x
    | _ => False
  | .int k, v, f => match v with
    | .int k' x => match sameK k k' with
      | true => f x
      | false => False
    | _ => False
  | .str, v, f => match v with
    | .string x => f x
    | _ => False
  | .ptr, v, f => match v with
    | .pointer x => f x
    | _ => False
  | .addr, v, f => match v with
    | .pointer (some x) => f x
    | _ => False
  | .slice, v, f => match v with
    | .slice a n m => f ⟨a, n, m⟩
    | _ => False
  | .map, v, f => match v with
    | .map x => f x
    | _ => False
  | .any, v, f => f v
  | .noerr, v, f => match v with
    | .nilIface => f ()
    | _ => False
theorem castP_out {l : Leaf} {v : Value} {f : l.T → Prop} (h : castP l v f) : ∃ x, v = l.mk x ∧ f x := by
  cases l
  case int k =>
    cases v <;> first | exact h.elim | skip
    rename_i k' x
    simp only [castP] at h
    cases hs : sameK k k' <;> simp only [hs] at h
    have := sameK_spec hs; subst this
    exact ⟨x, rfl, h⟩
  case addr =>
    cases v <;> first | exact h.elim | skip
    rename_i p
    cases p <;> first | exact h.elim | skip
    exact ⟨_, rfl, h⟩
  case any => exact ⟨v, rfl, h⟩
  case noerr => cases v <;> first | exact h.elim | exact ⟨(), rfl, h⟩
  all_goals (cases v <;> first | exact h.elim | exact ⟨_, rfl, h⟩)
/-- What the slots hold meets the relation. -/
def fwd : (st : List (Nat × Leaf)) → Cur Prop st → Env → World → Prop
  | [], I, _, w => I w
  | (s, l) :: r, I, e, w => match get e s with
    | some v => castP l v.1 fun x => fwd r (I x) e w
    | none => False
/-- .. and the measure is below m. -/
def back : (st : List (Nat × Leaf)) → Cur Prop st → Cur Nat st → Env → World → Nat → Prop
  | [], I, M, _, w, m => I w ∧ M w < m
  | (s, l) :: r, I, M, e, w, m => match get e s with
    | some v => castP l v.1 fun x => back r (I x) (M x) e w m
    | none => False
/-- For all values of the slots. -/
def headJ : (st : List (Nat × Leaf)) → Cur Prop st → (Env → (World → Prop) → Prop) → Prop
  | [], I, f => f [] I
  | (s, l) :: r, I, f => ∀ x : l.T, headJ r (I x) (fun e pre => f ((s, (l.mk x, l.flag)) :: e) pre)
def headL : (st : List (Nat × Leaf)) → Cur Prop st → Cur Nat st → (Env → (World → Prop) → (World → Nat) → Prop) → Prop
  | [], I, M, f => f [] I M
  | (s, l) :: r, I, M, f => ∀ x : l.T, headL r (I x) (M x) (fun e pre m => f ((s, (l.mk x, l.flag)) :: e) pre m)
def app : Env → Env → Env
  | [], e => e
  | p :: r, e => p :: app r e

section
variable (P : Program) (ty : Nat → Sh) (N : Nat) (ann : Ann)

def W : Code → Env → World → (Ex → Env → World → Prop) → Prop
  | .skip, e, w, K => K .n e w
  | .region id ops draw, e, w, K => match draw with
    | false => wOps P ty N .full ops.toList ops.toList e w (K .n)
    | true => match look ann.draw id with
      | some .raw => ∀ a, Sub N e a → (Code.region id ops true).wp P (fun x a' w' => ∃ x' e', x = Ex.exit x' ∧ Ext (dsts ops.toList) e e' ∧ Sub N e' a' ∧ K x' e' w') a w
      | some (.held l) => match Region.noSelect ops with
        | false => False
        | true => match Nat.beq l.length ops.size with
          | false => False
          | true => ∀ w1, Drew w w1 → ∃ S : World → Prop, S w1 ∧ wHeld P ty N ops S l (Array.replicate ops.size false) e w1 (K .n)
      | some (.swap H l) => match Region.noSelect ops with
        | false => False
        | true => match Nat.beq l.length ops.size with
          | false => False
          | true => ∀ w1, Drew w w1 → ∃ S : World → Prop, S w1 ∧ wHeldC P ty N ops S H l true (Array.replicate ops.size false) e w1 (K .n)
      | some (.tree t) => match Region.noSelect ops with
        | false => False
        | true => ∀ w1, Drew w w1 → ∃ S : World → Prop, S w1 ∧ wTree P ty N ops S t none ops.size (Array.replicate ops.size false) e w1 (K .n)
      | some (.tail n) => match Region.lexTailB .any ops n with
        | true => ∀ w1, Drew w w1 → wOps P ty N .still ops.toList (ops.toList.take n) e w1 fun e' w' => wOps P ty N .full ops.toList (ops.toList.drop n) e' w' (K .n)
        | false => False
      | _ => match Region.lexB .any ops with
        | true => wOps P ty N .quiet ops.toList ops.toList e w fun e' _ => ∀ w1, Drew w w1 → K .n e' w1
        | false => False
  | .seq a b, e, w, K => match firstReg b with
    | none => W a e w fun x e' w' => match x with
      | .n => W b e' w' K
      | x => K x e' w'
    | some id => match look ann.join id with
      | none => W a e w fun x e' w' => match x with
        | .n => W b e' w' K
        | x => K x e' w'
      | some st => match inside st (writes a) with
        | false => False
        | true => ∃ J : Cur Prop st, (W a e w fun x e' w' => match x with
          | .n => fwd st J e' w'
          | x => K x e' w') ∧ headJ st J fun s pre => ∀ w', pre w' → W b (app s (dropW (writes a) e)) w' K
  | .cond c a b, e, w, K => match ev e c with
    | some (v, true) => match v with
      | .bool true => W a e w K
      | .bool false => W b e w K
      | _ => False
    | some (v, false) => match v with
      | .bool x => (x = true → W a e w K) ∧ (x = false → W b e w K)
      | _ => False
    | none => False
  | .block id c, e, w, K => W c e w fun x e' w' => match x with
    | .x i => match Nat.beq i id with
      | true => K .n e' w'
      | false => K (.x i) e' w'
    | x => K x e' w'
  | .loop c, e, w, K => match firstReg c with
    | none => False
    | some id => match look ann.loop id with
      | none => False
      | some st => match inside st (writes c) with
        | false => False
        | true => ∃ (I : Cur Prop st) (M : Cur Nat st), fwd st I e w ∧ headL st I M fun s pre m => ∀ w', pre w' → W c (app s (dropW (writes c) e)) w' fun x e' w'' => match x with
        | .n => back st I M e' w'' (m w')
        | x => K x e' w''
  | .exit id, e, w, K => K (.x id) e w
  | .scope c, e, w, K => W c e w fun x e' w' => match x with
    | .g _ => False
    | x => K x e' w'
  | .label _, e, w, K => K .n e w
  | .goto l, e, w, K => K (.g l) e w
  | .ret, e, w, K => K .r e w
  | _, _, _, _ => False
end

/-! ### That it is enough -/
/-- A loop, by a relation that carries its measure. -/
theorem wp_loop_rel {P : Program} {Q : Exit → Act → World → Prop} {a : Act} {w : World} {c : Code} (I : Nat → Act → World → Prop) {n₀ : Nat} (h₀ : I n₀ a w)
    (round : ∀ n a w, I n a w → c.wp P (Exit.then (fun a' w' => ∃ n', n' < n ∧ I n' a' w') Q) a w) : (Code.loop c).wp P Q a w := by
  intro b k cs
  have key : ∀ n a w, I n a w → ∃ e a' w', Q e a' w' ∧ Arrives P (lone (b.at a (.code c :: .inLoop c :: k)) cs w) b k cs e a' w' := by
    intro n
    induction n using Nat.strongRecOn with
    | _ n ih =>
      intro a w hI
      obtain ⟨e, a₁, w₁, hq, harr⟩ := round n a w hI b (.inLoop c :: k) cs
      cases e with
      | normal =>
        obtain ⟨n', hlt, hI₁⟩ := hq
        obtain ⟨e₂, a₂, w₂, hq₂, harr₂⟩ := ih n' hlt a₁ w₁ hI₁
        exact ⟨e₂, a₂, w₂, hq₂, .of_steps (Steps.trans harr (.one step_inLoop)) harr₂⟩
      | exit id => exact ⟨_, a₁, w₁, hq, .pass (x := .inLoop c) rfl (fun _ _ => .inl (by simp)) harr⟩
      | goto l => exact ⟨_, a₁, w₁, hq, .pass (x := .inLoop c) rfl (fun _ _ => .inl (by simp)) harr⟩
      | ret => exact ⟨_, a₁, w₁, hq, .pass (x := .inLoop c) rfl (fun _ _ => .inl (by simp)) harr⟩
      | panic ch => exact ⟨_, a₁, w₁, hq, .pass (x := .inLoop c) rfl (fun _ _ => .inl (by simp)) harr⟩
      | outgrown => exact ⟨_, a₁, w₁, hq, .pass (x := .inLoop c) rfl (fun _ _ => .inl (by simp)) harr⟩
  obtain ⟨e, a', w', hq, harr⟩ := key _ a w h₀
  exact ⟨e, a', w', hq, .of_steps (.one step_loop) harr⟩

/-- What the slots of a relation hold, out of an environment. -/
def Holds (s e : Env) : Prop := ∀ t v, get s t = some v → ∃ b, get e t = some (v.1, b)
theorem fwd_head {e : Env} {w : World} : ∀ {st : List (Nat × Leaf)} {J : Cur Prop st} {f : Env → (World → Prop) → Prop}, fwd st J e w → headJ st J f → ∃ s pre, f s pre ∧ pre w ∧ Holds s e
  | [], J, f, h, hf => ⟨[], J, hf, h, fun _ _ h => by cases h⟩
  | (k, l) :: r, J, f, h, hf => by
    simp only [fwd] at h
    split at h
    · rename_i v hv
      obtain ⟨x, hx, h⟩ := castP_out h
      obtain ⟨s, pre, h1, h2, h3⟩ := fwd_head h (hf x)
      refine ⟨(k, (l.mk x, l.flag)) :: s, pre, h1, h2, fun t u hu => ?_⟩
      rw [get_cons] at hu
      by_cases hkt : k = t
      · subst hkt
        simp only [if_true, Option.some.injEq] at hu
        subst hu
        exact ⟨v.2, by rw [hv, ← hx]⟩
      · rw [if_neg hkt] at hu; exact h3 t u hu
    · exact h.elim
theorem fwd_headL {e : Env} {w : World} : ∀ {st : List (Nat × Leaf)} {J : Cur Prop st} {M : Cur Nat st} {f : Env → (World → Prop) → (World → Nat) → Prop}, fwd st J e w → headL st J M f → ∃ s pre m, f s pre m ∧ pre w ∧ Holds s e
  | [], J, M, f, h, hf => ⟨[], J, M, hf, h, fun _ _ h => by cases h⟩
  | (k, l) :: r, J, M, f, h, hf => by
    simp only [fwd] at h
    split at h
    · rename_i v hv
      obtain ⟨x, hx, h⟩ := castP_out h
      obtain ⟨s, pre, m, h1, h2, h3⟩ := fwd_headL h (hf x)
      refine ⟨(k, (l.mk x, l.flag)) :: s, pre, m, h1, h2, fun t u hu => ?_⟩
      rw [get_cons] at hu
      by_cases hkt : k = t
      · subst hkt
        simp only [if_true, Option.some.injEq] at hu
        subst hu
        exact ⟨v.2, by rw [hv, ← hx]⟩
      · rw [if_neg hkt] at hu; exact h3 t u hu
    · exact h.elim
theorem back_headL {e : Env} {w : World} {m0 : Nat} : ∀ {st : List (Nat × Leaf)} {J : Cur Prop st} {M : Cur Nat st} {f : Env → (World → Prop) → (World → Nat) → Prop}, back st J M e w m0 → headL st J M f → ∃ s pre m, f s pre m ∧ pre w ∧ m w < m0 ∧ Holds s e
  | [], J, M, f, h, hf => ⟨[], J, M, hf, h.1, h.2, fun _ _ h => by cases h⟩
  | (k, l) :: r, J, M, f, h, hf => by
    simp only [back] at h
    split at h
    · rename_i v hv
      obtain ⟨x, hx, h⟩ := castP_out h
      obtain ⟨s, pre, m, h1, h2, h4, h3⟩ := back_headL h (hf x)
      refine ⟨(k, (l.mk x, l.flag)) :: s, pre, m, h1, h2, h4, fun t u hu => ?_⟩
      rw [get_cons] at hu
      by_cases hkt : k = t
      · subst hkt
        simp only [if_true, Option.some.injEq] at hu
        subst hu
        exact ⟨v.2, by rw [hv, ← hx]⟩
      · rw [if_neg hkt] at hu; exact h3 t u hu
    · exact h.elim
theorem get_app : ∀ (s e : Env) (t : Nat), get (app s e) t = match get s t with
    | some v => some v
    | none => get e t
  | [], e, t => rfl
  | (k, v) :: s, e, t => by
    simp only [app]
    rw [get_cons, get_cons]
    by_cases h : k = t
    · simp [h]
    · simp only [if_neg h]; exact get_app s e t
/-- Behind a piece of code the slots that it does not write, and those of the relation. -/
theorem sub_app {N : Nat} {wr : List Nat} {s e e' : Env} {a : Act} (hx : Ext wr e e') (hs : Sub N e' a) (hh : Holds s e') : Sub N (app s (dropW wr e)) a := by
  refine ⟨hs.size, hs.defers, fun t v hv => ?_⟩
  rw [get_app] at hv
  cases hg : get s t with
  | some u =>
    simp only [hg, Option.some.injEq] at hv
    subst hv
    obtain ⟨b, hb⟩ := hh t u hg
    exact hs.at_ t (u.1, b) hb
  | none =>
    simp only [hg] at hv
    obtain ⟨h1, h2⟩ := get_dropW wr e t v hv
    obtain ⟨b, hb⟩ := hx t v h1 h2
    exact hs.at_ t (v.1, b) hb
def Slots (st : List (Nat × Leaf)) (s : Env) : Prop := ∀ t, (∃ v, get s t = some v) → ∃ l, (t, l) ∈ st
theorem headJ_slots : ∀ {st : List (Nat × Leaf)} {J : Cur Prop st} {f : Env → (World → Prop) → Prop}, headJ st J f → headJ st J fun s pre => f s pre ∧ Slots st s
  | [], _, _, h => ⟨h, fun _ ⟨_, hv⟩ => by cases hv⟩
  | (k, l) :: r, J, f, h => fun x => by
    refine headJ_mono (headJ_slots (h x)) fun s pre ⟨h1, h2⟩ => ⟨h1, fun t ⟨v, hv⟩ => ?_⟩
    rw [get_cons] at hv
    by_cases hkt : k = t
    · subst hkt; exact ⟨l, by simp⟩
    · rw [if_neg hkt] at hv
      obtain ⟨l', hl⟩ := h2 t ⟨v, hv⟩
      exact ⟨l', by simp [hl]⟩
where headJ_mono : ∀ {st : List (Nat × Leaf)} {J : Cur Prop st} {f g : Env → (World → Prop) → Prop}, headJ st J f → (∀ s pre, f s pre → g s pre) → headJ st J g
  | [], _, _, _, h, hg => hg _ _ h
  | (_, _) :: _, _, _, _, h, hg => fun x => headJ_mono (h x) fun s pre => hg _ _
theorem headL_slots : ∀ {st : List (Nat × Leaf)} {J : Cur Prop st} {M : Cur Nat st} {f : Env → (World → Prop) → (World → Nat) → Prop}, headL st J M f → headL st J M fun s pre m => f s pre m ∧ Slots st s
  | [], _, _, _, h => ⟨h, fun _ ⟨_, hv⟩ => by cases hv⟩
  | (k, l) :: r, J, M, f, h => fun x => by
    refine headL_mono (headL_slots (h x)) fun s pre m ⟨h1, h2⟩ => ⟨h1, fun t ⟨v, hv⟩ => ?_⟩
    rw [get_cons] at hv
    by_cases hkt : k = t
    · subst hkt; exact ⟨l, by simp⟩
    · rw [if_neg hkt] at hv
      obtain ⟨l', hl⟩ := h2 t ⟨v, hv⟩
      exact ⟨l', by simp [hl]⟩
where headL_mono : ∀ {st : List (Nat × Leaf)} {J : Cur Prop st} {M : Cur Nat st} {f g : Env → (World → Prop) → (World → Nat) → Prop}, headL st J M f → (∀ s pre m, f s pre m → g s pre m) → headL st J M g
  | [], _, _, _, _, h, hg => hg _ _ _ h
  | (_, _) :: _, _, _, _, _, h, hg => fun x => headL_mono (h x) fun s pre m => hg _ _ _
theorem inside_spec {wr : List Nat} : ∀ {st : List (Nat × Leaf)}, inside st wr = true → ∀ t l, (t, l) ∈ st → memN t wr = true
  | (s, _) :: r, h, t, l, hm => by
    simp only [inside] at h
    cases hb : memN s wr with
    | false => simp [hb] at h
    | true =>
      simp only [hb] at h
      cases hm with
      | head => exact hb
      | tail _ hm => exact inside_spec h t l hm
theorem ext_app {wr : List Nat} {st : List (Nat × Leaf)} {s e : Env} (hi : inside st wr = true) (hs : Slots st s) : Ext wr e (app s (dropW wr e)) := fun t v hm hg => by
  rw [get_app]
  cases hst : get s t with
  | some u =>
    obtain ⟨l, hl⟩ := hs t ⟨u, hst⟩
    have := inside_spec hi t l hl
    rw [hm] at this; cases this
  | none =>
    refine ⟨v.2, ?_⟩
    simp only
    clear hst hs hi
    induction e with
    | nil => cases hg
    | cons p r ih =>
      obtain ⟨k, u⟩ := p
      rw [get_cons] at hg
      simp only [dropW]
      by_cases hkt : k = t
      · subst hkt
        simp only [if_true, Option.some.injEq] at hg
        subst hg
        simp only [hm]
        rw [get_cons]; simp
      · rw [if_neg hkt] at hg
        cases hmk : memN k wr with
        | true => exact ih hg
        | false => simp only; rw [get_cons, if_neg hkt]; exact ih hg

theorem dsts_mem {ops : Array Oper} {i : Nat} {o : Oper} {d : Nat} (ho : ops[i]? = some o) (hd : o.dst = some d) : d ∈ dsts ops.toList := by
  have hm : o ∈ ops.toList := by
    rw [← Array.getElem?_toList] at ho
    exact List.mem_of_getElem? ho
  generalize ops.toList = l at hm
  induction l with
  | nil => cases hm
  | cons x r ih =>
    simp only [dsts]
    cases hm with
    | head => rw [hd]; simp
    | tail _ hm =>
      have := ih hm
      cases x.dst <;> simp [this]
theorem noPan_imp {Q : Exit → Act → World → Prop} : ∀ (e : Exit) (a : Act) (w : World), noPan Q e a w → Q e a w := fun e a w h => by
  cases e <;> first | exact h | exact (h : False).elim
theorem W_sound {P : Program} {ty : Nat → Sh} {N : Nat} {ann : Ann} (hm : P.follows .mixedOrders = true) : ∀ (c : Code) (e : Env) (w : World) (K : Ex → Env → World → Prop), W P ty N ann c e w K →
    ∀ (a : Act) (Q : Exit → Act → World → Prop), Sub N e a → (∀ x e' w' a', K x e' w' → Ext (writes c) e e' → Sub N e' a' → Q x.exit a' w') → c.wp P Q a w
  | .skip, e, w, K, h, a, Q, hs, hk => wp_skip (hk .n _ _ _ h (.refl _ _) hs)
  | .region id ops draw, e, w, K, h, a, Q, hs, hk => by
    simp only [W] at h
    split at h
    · exact wp_region_list (by
        have := wOps_sound (Q := Q) _ _ a _ _ h hs fun e' w' a' h1 h2 h3 => hk .n _ _ _ h1 h2 h3
        simpa using this)
    · split at h
      · exact Code.wp_mono (fun x a' w' ⟨x', e', hx, h1, h2, h3⟩ => by subst hx; exact hk _ _ _ _ h3 h1 h2) (h a hs)
      · rename_i l _
        split at h
        · exact h.elim
        rename_i hsel
        split at h
        · exact h.elim
        rename_i hlen
        have hlen := Nat.eq_of_beq_eq_true hlen
        obtain ⟨S, hS, h⟩ := h w.drew ⟨1, rfl⟩
        refine Code.wp_mono noPan_imp (wp_region_any hm (any_of_anyS (S := S) _ _ _ _ ?_))
        have key := wHeld_sound (Q := Q) hsel l _ _ a _ _ (writes (Code.region id ops true)) (fun i b _ o ho d hd => memN_spec.2 (dsts_mem ho hd)) h
          ⟨by simp, fun j oj _ hl => (by rw [getD_replicate_false] at hl; cases hl), fun t _ ht => getD_in (by simpa using ht) (getD_replicate_false _ _)⟩
          hs (.inl hS) fun e' w' a' h1 h2 h3 => hk .n _ _ _ h1 h2 h3
        rw [hlen] at key
        exact key
      · rename_i H l _
        split at h
        · exact h.elim
        rename_i hsel
        split at h
        · exact h.elim
        rename_i hlen
        have hlen := Nat.eq_of_beq_eq_true hlen
        obtain ⟨S, hS, h⟩ := h w.drew ⟨1, rfl⟩
        refine Code.wp_mono noPan_imp (wp_region_any hm (any_of_anyC (S := S) (H := H) _ true _ _ _ ?_))
        have key := wHeldC_sound (Q := Q) hsel l true _ _ a _ _ (writes (Code.region id ops true)) (fun i b _ o ho d hd => memN_spec.2 (dsts_mem ho hd)) h
          ⟨by simp, fun j oj _ hl => (by rw [getD_replicate_false] at hl; cases hl), fun t _ ht => getD_in (by simpa using ht) (getD_replicate_false _ _)⟩
          hs (fun _ => hS) fun e' w' a' h1 h2 h3 => hk .n _ _ _ h1 h2 h3
        rw [hlen] at key
        exact key
      · rename_i t _
        split at h
        · exact h.elim
        rename_i hsel
        obtain ⟨S, hS, h⟩ := h w.drew ⟨1, rfl⟩
        refine Code.wp_mono noPan_imp (wp_region_any hm (any_of_anyS (S := S) _ _ _ _ ?_))
        exact wTree_sound (Q := Q) hsel (writes (Code.region id ops true)) (fun i o ho d hd => memN_spec.2 (dsts_mem ho hd)) t none ops.size _ _ a _ _ h
          ⟨by simp, fun j oj _ hl => (by rw [getD_replicate_false] at hl; cases hl), fun t _ ht => getD_in (by simpa using ht) (getD_replicate_false _ _)⟩
          hs (.inl hS) fun e' w' a' h1 h2 h3 => hk .n _ _ _ h1 h2 h3
      · rename_i n _
        cases hB : Region.lexTailB .any ops n with
        | false => simp [hB] at h
        | true =>
          simp only [hB] at h
          have hops : ops = ops.toList.toArray := by simp
          rw [hops]
          refine wp_region_still_tail n hm (by rw [← hops]; exact hB) ?_
          have := wOps_still (Q := fun a' => wpList P ops.toList.toArray Q (ops.toList.drop n) a' w.drew) _ _ a _ (h _ ⟨1, rfl⟩) hs fun e' a' h1 h2 h3 =>
            wOps_sound (Q := Q) _ _ a' _ _ h1 h3 fun e'' w'' a'' k1 k2 k3 => hk .n _ _ _ k1 ((h2.trans k2).mono fun t ht => by
              rw [← dsts_app, List.take_append_drop]; exact ht) k3
          exact this
      · cases hB : Region.lexB .any ops with
        | false => simp [hB] at h
        | true =>
          simp only [hB] at h
          have hops : ops = ops.toList.toArray := by simp
          rw [hops]
          refine wp_region_quiet_lit hm (by rw [← hops]; exact hB) ?_
          exact wOps_quiet _ _ a _ h hs fun e' a' h1 h2 h3 w' ⟨n, hw'⟩ => by
            subst hw'; exact hk .n _ _ _ (h1 _ ⟨n, rfl⟩) h2 h3
  | .seq x y, e, w, K, h, a, Q, hs, hk => by
    have plain : (W P ty N ann x e w fun x e' w' => match x with
        | .n => W P ty N ann y e' w' K
        | x => K x e' w') → (Code.seq x y).wp P Q a w := fun h => by
      refine wp_seq (W_sound hm x e w _ h a _ hs fun x e' w' a' h1 h2 h3 => ?_)
      cases x with
      | n => exact W_sound hm y e' w' K h1 a' Q h3 fun x2 e2 w2 a2 k1 k2 k3 => hk _ _ _ _ k1 (h2.trans k2) k3
      | x i => exact hk (.x i) _ _ _ h1 (h2.mono fun t ht => (memN_app ht).1) h3
      | g i => exact hk (.g i) _ _ _ h1 (h2.mono fun t ht => (memN_app ht).1) h3
      | r => exact hk .r _ _ _ h1 (h2.mono fun t ht => (memN_app ht).1) h3
    simp only [W] at h
    split at h
    · exact plain h
    · split at h
      · exact plain h
      · rename_i st _
        split at h
        · exact h.elim
        rename_i hin
        obtain ⟨J, h1, h2⟩ := h
        refine wp_seq (W_sound hm x e w _ h1 a _ hs fun x e' w' a' g1 g2 g3 => ?_)
        cases x with
        | n =>
          obtain ⟨s, pre, ⟨hf, hsl⟩, hp, hh⟩ := fwd_head g1 (headJ_slots h2)
          have hx := ext_app (e := e) hin hsl
          exact W_sound hm y _ w' K (hf w' hp) a' Q (sub_app g2 g3 hh) fun x2 e2 w2 a2 k1 k2 k3 => hk _ _ _ _ k1 (hx.trans k2) k3
        | x i => exact hk (.x i) _ _ _ g1 (g2.mono fun t ht => (memN_app ht).1) g3
        | g i => exact hk (.g i) _ _ _ g1 (g2.mono fun t ht => (memN_app ht).1) g3
        | r => exact hk .r _ _ _ g1 (g2.mono fun t ht => (memN_app ht).1) g3
  | .cond c x y, e, w, K, h, a, Q, hs, hk => by
    have hx : W P ty N ann x e w K → x.wp P Q a w := fun h => W_sound hm x e w K h a Q hs fun x2 e2 w2 a2 k1 k2 k3 => hk _ _ _ _ k1 (k2.mono fun t ht => (memN_app ht).1) k3
    have hy : W P ty N ann y e w K → y.wp P Q a w := fun h => W_sound hm y e w K h a Q hs fun x2 e2 w2 a2 k1 k2 k3 => hk _ _ _ _ k1 (k2.mono fun t ht => (memN_app ht).2) k3
    simp only [W] at h
    split at h
    · rename_i v hv
      have hc := hs.ev hv
      split at h
      · exact wp_cond_true hc (hx h)
      · exact wp_cond_false hc (hy h)
      · exact h.elim
    · rename_i v hv
      have hc := hs.ev hv
      split at h
      · exact wp_cond_split hc (fun ht => hx (h.1 ht)) (fun hf => hy (h.2 hf))
      · exact h.elim
    · exact h.elim
  | .block id c, e, w, K, h, a, Q, hs, hk => by
    refine wp_block (W_sound hm c e w _ h a _ hs fun x e' w' a' g1 g2 g3 => ?_)
    cases x with
    | n => exact hk .n _ _ _ g1 g2 g3
    | x i =>
      simp only [Ex.exit, Exit.inBlock]
      simp only at g1
      cases hb : Nat.beq i id with
      | true =>
        simp only [hb] at g1
        rw [if_pos (Nat.eq_of_beq_eq_true hb)]
        exact hk .n _ _ _ g1 g2 g3
      | false =>
        simp only [hb] at g1
        rw [if_neg (fun he => by subst he; simp at hb)]
        exact hk (.x i) _ _ _ g1 g2 g3
    | g i => exact hk (.g i) _ _ _ g1 g2 g3
    | r => exact hk .r _ _ _ g1 g2 g3
  | .loop c, e, w, K, h, a, Q, hs, hk => by
    simp only [W] at h
    split at h
    · exact h.elim
    split at h
    · exact h.elim
    rename_i st _
    split at h
    · exact h.elim
    rename_i hin
    obtain ⟨I, M, h1, h2⟩ := h
    have h2 := headL_slots h2
    obtain ⟨s, pre, m, ⟨hf, hsl⟩, hp, hh⟩ := fwd_headL h1 h2
    refine wp_loop_rel (fun n a w => ∃ (s : Env) (pre : World → Prop) (m : World → Nat), ((∀ w', pre w' → W P ty N ann c (app s (dropW (writes c) e)) w' fun x e' w'' => match x with
        | .n => back st I M e' w'' (m w')
        | x => K x e' w'') ∧ Slots st s) ∧ pre w ∧ n = m w ∧ Sub N (app s (dropW (writes c) e)) a) ⟨s, pre, m, ⟨hf, hsl⟩, hp, rfl, sub_app (.refl _ _) hs hh⟩ ?_
    rintro n a w ⟨s, pre, m, ⟨hf, hsl⟩, hp, rfl, hs⟩
    have hx := ext_app (e := e) hin hsl
    refine W_sound hm c _ w _ (hf w hp) a _ hs fun x e' w' a' g1 g2 g3 => ?_
    cases x with
    | n =>
      obtain ⟨s', pre', m', ⟨hf', hsl'⟩, hp', hlt, hh'⟩ := back_headL g1 h2
      exact ⟨m' w', hlt, s', pre', m', ⟨hf', hsl'⟩, hp', rfl, sub_app (hx.trans' g2) g3 hh'⟩
    | x i => exact hk (.x i) _ _ _ g1 (hx.trans' g2) g3
    | g i => exact hk (.g i) _ _ _ g1 (hx.trans' g2) g3
    | r => exact hk .r _ _ _ g1 (hx.trans' g2) g3
  | .exit id, e, w, K, h, a, Q, hs, hk => wp_exit (hk (.x id) _ _ _ h (.refl _ _) hs)
  | .scope c, e, w, K, h, a, Q, hs, hk => by
    refine wp_scope_straight (W_sound hm c e w _ h a _ hs fun x e' w' a' g1 g2 g3 => ?_)
    cases x with
    | n => exact hk .n _ _ _ g1 g2 g3
    | x i => exact hk (.x i) _ _ _ g1 g2 g3
    | g i => exact g1.elim
    | r => exact hk .r _ _ _ g1 g2 g3
  | .label l, e, w, K, h, a, Q, hs, hk => wp_label (hk .n _ _ _ h (.refl _ _) hs)
  | .goto l, e, w, K, h, a, Q, hs, hk => wp_goto (hk (.g l) _ _ _ h (.refl _ _) hs)
  | .ret, e, w, K, h, a, Q, hs, hk => wp_ret (hk .r _ _ _ h (.refl _ _) hs)
  | .rangeFunc .., _, _, _, h, _, _, _, _ => by simp only [W] at h
  | .refuse .., _, _, _, h, _, _, _, _ => by simp only [W] at h

/-! ### Functions -/
/-! ### Labels: the outermost scope of a function -/
/-- A label's relation and measure. -/
structure LabR where
  st : List (Nat × Leaf)
  I : Cur Prop st
  M : Cur Nat st
def exLab : List (Nat × List (Nat × Leaf)) → (List (Nat × LabR) → Prop) → Prop
  | [], f => f []
  | (l, st) :: r, f => ∃ (I : Cur Prop st) (M : Cur Nat st), exLab r fun rs => f ((l, ⟨st, I, M⟩) :: rs)
theorem exLab_out : ∀ {ls : List (Nat × List (Nat × Leaf))} {f : List (Nat × LabR) → Prop}, exLab ls f → ∃ rs, f rs
  | [], _, h => ⟨[], h⟩
  | _ :: _, _, ⟨_, _, h⟩ => let ⟨_, h⟩ := exLab_out h; ⟨_, h⟩
section
variable (P : Program) (ty : Nat → Sh) (N : Nat) (ann : Ann)
def labsOk (c : Code) (e : Env) (rs : List (Nat × LabR)) (K : Ex → Env → World → Prop) : List (Nat × LabR) → Prop
  | [] => True
  | (l, r) :: rest => match inside r.st (writes c) with
    | false => False
    | true => match findLabel c l with
      | none => False
      | some d => (headL r.st r.I r.M fun s pre m => ∀ w', pre w' → W P ty N ann d (app s (dropW (writes c) e)) w' fun x e' w'' => match x with
          | .g l' => match look rs l' with
            | some r' => back r'.st r'.I r'.M e' w'' (m w')
            | none => False
          | x => K x e' w'') ∧ labsOk c e rs K rest
/-- The outermost scope: its labels have relations. -/
def WSc (c : Code) (e : Env) (w : World) (K : Ex → Env → World → Prop) : Prop := match ann.labs with
  | [] => W P ty N ann (.scope c) e w K
  | _ => exLab ann.labs fun rs => (W P ty N ann c e w fun x e' w' => match x with
      | .g l => match look rs l with
        | some r => fwd r.st r.I e' w'
        | none => False
      | x => K x e' w') ∧ labsOk P ty N ann c e rs K rs
def endsSc : Code → Bool
  | .scope _ => true
  | .seq _ b => endsSc b
  | _ => false
/-- A function's body. -/
def WS : Code → Env → World → (Ex → Env → World → Prop) → Prop
  | .scope c, e, w, K => WSc P ty N ann c e w K
  | .seq a b, e, w, K => match endsSc b with
    | true => W P ty N ann a e w fun x e' w' => match x with
      | .n => WS b e' w' K
      | x => K x e' w'
    | false => W P ty N ann (.seq a b) e w K
  | c, e, w, K => W P ty N ann c e w K
end
theorem look_mem {α : Type} : ∀ {rs : List (Nat × α)} {l : Nat} {r : α}, look rs l = some r → (l, r) ∈ rs
  | (k, v) :: rest, l, r, h => by
    simp only [look] at h
    cases hb : Nat.beq k l with
    | true =>
      simp only [hb, Option.some.injEq] at h
      have := Nat.eq_of_beq_eq_true hb
      subst this h; simp
    | false =>
      simp only [hb] at h
      exact List.mem_cons_of_mem _ (look_mem h)
/-- By a goto to label l: J l n, for some n; else as Q. -/
def jumpTo (J : Nat → Act → World → Prop) (Q : Exit → Act → World → Prop) : Exit → Act → World → Prop
  | .goto l, a, w => J l a w
  | e, a, w => Q e a w
theorem wp_scope_labels {P : Program} {a : Act} {w : World} {Q : Exit → Act → World → Prop} {c : Code} (J : Nat → Nat → Act → World → Prop) (hf : ∀ l n a w, J l n a w → ∃ d, findLabel c l = some d)
    (first : c.wp P (jumpTo (fun l a w => ∃ n, J l n a w) Q) a w)
    (pass : ∀ l d n a w, findLabel c l = some d → J l n a w → d.wp P (jumpTo (fun l' a' w' => ∃ n', n' < n ∧ J l' n' a' w') Q) a w) : (Code.scope c).wp P Q a w := by
  intro b k cs
  have hg : ∀ l d, findLabel c l = some d → gotoIn l (.inScope c :: k) = some (.code d :: .inScope c :: k) := fun l d h => by simp [gotoIn, h]
  have key : ∀ n l d a w, findLabel c l = some d → J l n a w → ∃ e a' w', Q e a' w' ∧ Arrives P (lone (b.at a (.code d :: .inScope c :: k)) cs w) b k cs e a' w' := by
    intro n
    induction n using Nat.strongRecOn with
    | _ n ih =>
      intro l d a w hd hJ
      obtain ⟨e, a₁, w₁, hq, harr⟩ := pass l d n a w hd hJ b (.inScope c :: k) cs
      cases e with
      | normal => exact ⟨.normal, a₁, w₁, hq, Steps.trans harr (.one step_inScope)⟩
      | exit id => exact ⟨.exit id, a₁, w₁, hq, fun k' hk => harr k' (by simp [exitTo, hk])⟩
      | goto l' =>
        obtain ⟨n', hlt, hJ'⟩ := hq
        obtain ⟨d', hd'⟩ := hf _ _ _ _ hJ'
        obtain ⟨e₂, a₂, w₂, hq₂, harr₂⟩ := ih n' hlt l' d' a₁ w₁ hd' hJ'
        exact ⟨e₂, a₂, w₂, hq₂, .of_steps (harr _ (hg l' d' hd')) harr₂⟩
      | ret => exact ⟨_, a₁, w₁, hq, harr⟩
      | panic ch => exact ⟨_, a₁, w₁, hq, harr⟩
      | outgrown => exact ⟨_, a₁, w₁, hq, harr⟩
  obtain ⟨e, a₁, w₁, hq, harr⟩ := first b (.inScope c :: k) cs
  cases e with
  | normal => exact ⟨.normal, a₁, w₁, hq, .head step_scope (Steps.trans harr (.one step_inScope))⟩
  | exit id => exact ⟨.exit id, a₁, w₁, hq, fun k' hk => .head step_scope (harr k' (by simp [exitTo, hk]))⟩
  | goto l' =>
    obtain ⟨n', hJ'⟩ := hq
    obtain ⟨d', hd'⟩ := hf _ _ _ _ hJ'
    obtain ⟨e₂, a₂, w₂, hq₂, harr₂⟩ := key n' l' d' a₁ w₁ hd' hJ'
    exact ⟨e₂, a₂, w₂, hq₂, .of_steps (.head step_scope (harr _ (hg l' d' hd'))) harr₂⟩
  | ret => exact ⟨_, a₁, w₁, hq, .of_steps (.one step_scope) harr⟩
  | panic ch => exact ⟨_, a₁, w₁, hq, .of_steps (.one step_scope) harr⟩
  | outgrown => exact ⟨_, a₁, w₁, hq, .of_steps (.one step_scope) harr⟩
theorem labsOk_at {P : Program} {ty : Nat → Sh} {N : Nat} {ann : Ann} {c : Code} {e : Env} {rs : List (Nat × LabR)} {K : Ex → Env → World → Prop} : ∀ {l : List (Nat × LabR)}, labsOk P ty N ann c e rs K l → ∀ {k : Nat} {r : LabR}, (k, r) ∈ l →
    inside r.st (writes c) = true ∧ ∃ d, findLabel c k = some d ∧ headL r.st r.I r.M fun s pre m => ∀ w', pre w' → W P ty N ann d (app s (dropW (writes c) e)) w' fun x e' w'' => match x with
          | .g l' => match look rs l' with
            | some r' => back r'.st r'.I r'.M e' w'' (m w')
            | none => False
          | x => K x e' w''
  | (l, r') :: rest, h, k, r, hm => by
    simp only [labsOk] at h
    split at h
    · exact h.elim
    rename_i hi
    split at h
    · exact h.elim
    rename_i d hd
    rcases List.mem_cons.1 hm with heq | hm
    · cases heq
      exact ⟨hi, d, hd, h.1⟩
    · exact labsOk_at h.2 hm
theorem writes_label : ∀ {c : Code} {l : Nat} {d : Code}, findLabel c l = some d → ∀ t, memN t (writes c) = false → memN t (writes d) = false
  | .seq a b, l, d, h, t, ht => by
    simp only [findLabel] at h
    obtain ⟨h1, h2⟩ := memN_app ht
    cases hb : findLabel a l with
    | some rest =>
      simp only [hb, Option.some.injEq] at h
      subst h
      have ih := writes_label hb t h1
      cases hm : memN t (writes (.seq rest b)) with
      | false => rfl
      | true =>
        have := memN_spec.1 hm
        rcases List.mem_append.1 this with h3 | h3
        · rw [memN_spec.2 h3] at ih; cases ih
        · rw [memN_spec.2 h3] at h2; cases h2
    | none =>
      simp only [hb] at h
      exact writes_label h t h2
  | .label l', l, d, h, t, ht => by
    simp only [findLabel] at h
    split at h
    · cases h; rfl
    · cases h
  | .skip, _, _, h, _, _ => by cases h
  | .region .., _, _, h, _, _ => by cases h
  | .cond .., _, _, h, _, _ => by cases h
  | .block .., _, _, h, _, _ => by cases h
  | .loop .., _, _, h, _, _ => by cases h
  | .scope .., _, _, h, _, _ => by cases h
  | .exit .., _, _, h, _, _ => by cases h
  | .goto .., _, _, h, _, _ => by cases h
  | .ret, _, _, h, _, _ => by cases h
  | .rangeFunc .., _, _, h, _, _ => by cases h
  | .refuse .., _, _, h, _, _ => by cases h
theorem WSc_sound {P : Program} {ty : Nat → Sh} {N : Nat} {ann : Ann} (hm : P.follows .mixedOrders = true) (c : Code) (e : Env) (w : World) (K : Ex → Env → World → Prop) (h : WSc P ty N ann c e w K)
    (a : Act) (Q : Exit → Act → World → Prop) (hs : Sub N e a) (hk : ∀ x e' w' a', K x e' w' → Ext (writes c) e e' → Sub N e' a' → Q x.exit a' w') : (Code.scope c).wp P Q a w := by
  unfold WSc at h
  · split at h
    · exact W_sound hm _ e w K h a Q hs hk
    · obtain ⟨rs, h1, h2⟩ := exLab_out h
      -- what holds at a label
      let J : Nat → Nat → Act → World → Prop := fun l n a w => ∃ (r : LabR) (s : Env) (pre : World → Prop) (m : World → Nat), (l, r) ∈ rs ∧ Slots r.st s ∧ pre w ∧ m w = n ∧ Sub N (app s (dropW (writes c) e)) a ∧
        ∃ d, findLabel c l = some d ∧ ∀ w', pre w' → W P ty N ann d (app s (dropW (writes c) e)) w' fun x e' w'' => match x with
          | .g l' => match look rs l' with
            | some r' => back r'.st r'.I r'.M e' w'' (m w')
            | none => False
          | x => K x e' w''
      refine wp_scope_labels J (fun l n a w ⟨_, _, _, _, _, _, _, _, _, d, hd, _⟩ => ⟨d, hd⟩) ?_ ?_
      · refine W_sound hm c e w _ h1 a _ hs fun x e' w' a' g1 g2 g3 => ?_
        cases x with
        | n => exact hk .n _ _ _ g1 g2 g3
        | x i => exact hk (.x i) _ _ _ g1 g2 g3
        | r => exact hk .r _ _ _ g1 g2 g3
        | g l =>
          show ∃ n, J l n a' w'
          simp only at g1
          split at g1
          · rename_i r hr
            obtain ⟨hin, d, hd, hh⟩ := labsOk_at h2 (look_mem hr)
            obtain ⟨s, pre, m, ⟨q1, q2⟩, q3, q4⟩ := fwd_headL g1 (headL_slots hh)
            exact ⟨m w', r, s, pre, m, look_mem hr, q2, q3, rfl, sub_app g2 g3 q4, d, hd, q1⟩
          · exact g1.elim
      · rintro l d n a w hd ⟨r, s, pre, m, hmem, hsl, hpre, rfl, hsub, d', hd', hW⟩
        rw [hd] at hd'; cases hd'
        obtain ⟨hin, _⟩ := labsOk_at h2 hmem
        refine W_sound hm d _ w _ (hW w hpre) a _ hsub fun x e' w' a' g1 g2 g3 => ?_
        have hx : Ext (writes c) e e' := (ext_app hin hsl).trans' (g2.mono (writes_label hd))
        cases x with
        | n => exact hk .n _ _ _ g1 hx g3
        | x i => exact hk (.x i) _ _ _ g1 hx g3
        | r => exact hk .r _ _ _ g1 hx g3
        | g l' =>
          show ∃ n', n' < m w ∧ J l' n' a' w'
          simp only at g1
          split at g1
          · rename_i r' hr'
            obtain ⟨hin', d', hd', hh⟩ := labsOk_at h2 (look_mem hr')
            obtain ⟨s', pre', m', ⟨q1, q2⟩, q3, q5, q4⟩ := back_headL g1 (headL_slots hh)
            exact ⟨m' w', q5, r', s', pre', m', look_mem hr', q2, q3, rfl, sub_app hx g3 q4, d', hd', q1⟩
          · exact g1.elim
theorem WS_sound {P : Program} {ty : Nat → Sh} {N : Nat} {ann : Ann} (hm : P.follows .mixedOrders = true) : ∀ (c : Code) (e : Env) (w : World) (K : Ex → Env → World → Prop), WS P ty N ann c e w K →
    ∀ (a : Act) (Q : Exit → Act → World → Prop), Sub N e a → (∀ x e' w' a', K x e' w' → Ext (writes c) e e' → Sub N e' a' → Q x.exit a' w') → c.wp P Q a w
  | .scope c, e, w, K, h, a, Q, hs, hk => WSc_sound hm c e w K h a Q hs hk
  | .seq x y, e, w, K, h, a, Q, hs, hk => by
    simp only [WS] at h
    split at h
    · refine wp_seq (W_sound hm x e w _ h a _ hs fun x e' w' a' h1 h2 h3 => ?_)
      cases x with
      | n => exact WS_sound hm y e' w' K h1 a' Q h3 fun x2 e2 w2 a2 k1 k2 k3 => hk _ _ _ _ k1 (h2.trans k2) k3
      | x i => exact hk (.x i) _ _ _ h1 (h2.mono fun t ht => (memN_app ht).1) h3
      | g i => exact hk (.g i) _ _ _ h1 (h2.mono fun t ht => (memN_app ht).1) h3
      | r => exact hk .r _ _ _ h1 (h2.mono fun t ht => (memN_app ht).1) h3
    · exact W_sound hm _ e w K h a Q hs hk
  | .skip, e, w, K, h, a, Q, hs, hk => W_sound hm _ e w K h a Q hs hk
  | .region .., e, w, K, h, a, Q, hs, hk => W_sound hm _ e w K h a Q hs hk
  | .cond .., e, w, K, h, a, Q, hs, hk => W_sound hm _ e w K h a Q hs hk
  | .block .., e, w, K, h, a, Q, hs, hk => W_sound hm _ e w K h a Q hs hk
  | .loop .., e, w, K, h, a, Q, hs, hk => W_sound hm _ e w K h a Q hs hk
  | .exit .., e, w, K, h, a, Q, hs, hk => W_sound hm _ e w K h a Q hs hk
  | .label .., e, w, K, h, a, Q, hs, hk => W_sound hm _ e w K h a Q hs hk
  | .goto .., e, w, K, h, a, Q, hs, hk => W_sound hm _ e w K h a Q hs hk
  | .ret, e, w, K, h, a, Q, hs, hk => W_sound hm _ e w K h a Q hs hk
  | .rangeFunc .., e, w, K, h, a, Q, hs, hk => W_sound hm _ e w K h a Q hs hk
  | .refuse .., e, w, K, h, a, Q, hs, hk => W_sound hm _ e w K h a Q hs hk

section
variable (P : Program) (ty : Nat → Sh) (N : Nat) (ann : Ann)
/-- What is handed back. -/
def ans : List ResultVar → Env → World → (List Value → Prop) → Prop
  | [], _, _, f => f []
  | .tmp t :: r, e, w, f => match get e t with
    | some v => ans r e w fun vs => f (v.1 :: vs)
    | none => False
  | .cell p t :: r, e, w, f => match get e p with
    | some v => match v.1 with
      | .pointer (some a) => exSh (ty t) fun v => (loadVar t a).run P w = .ok v w ∧ ans r e w fun vs => f (v :: vs)
      | _ => False
    | none => False
def tupled : List Value → Value
  | [v] => v
  | vs => .tuple vs.toArray
def answer (fn : Func) (R : Value → World → Prop) (e : Env) (w : World) : Prop :=
  ans P ty fn.results.toList e w fun vs => R (tupled vs) w
def envOf : List (Value × Bool) → Nat → Env
  | [], _ => []
  | v :: r, n => (n, v) :: envOf r (n + 1)
def firsts : List (Value × Bool) → List Value
  | [] => []
  | v :: r => v.1 :: firsts r
def Body (fn : Func) (c : Code) (args : List (Value × Bool)) (w : World) (R : Value → World → Prop) : Prop :=
  WS P ty fn.ntmps ann c (envOf args 0) w fun x e w' => match x with
    | .n => answer P ty fn R e w'
    | .r => answer P ty fn R e w'
    | _ => False
end
theorem get_envOf : ∀ (l : List (Value × Bool)) (n t : Nat) (v : Val), get (envOf l n) t = some v → n ≤ t ∧ (firsts l)[t - n]? = some v.1
  | [], n, t, v, h => by cases h
  | u :: r, n, t, v, h => by
    simp only [envOf, get_cons] at h
    by_cases hnt : n = t
    · subst hnt
      simp only [if_true, Option.some.injEq] at h
      subst h
      simp [firsts]
    · rw [if_neg hnt] at h
      obtain ⟨h1, h2⟩ := get_envOf r (n + 1) t v h
      refine ⟨by omega, ?_⟩
      rw [show t - n = (t - (n + 1)) + 1 by omega]
      simpa [firsts] using h2
theorem run_mapM {α β : Type} {P : Program} {w : World} {f : α → Sem β} : ∀ {l : List α} {vs : List β}, l.length = vs.length → (∀ (i : Nat) (x : α) (y : β), l[i]? = some x → vs[i]? = some y → (f x).run P w = .ok y w) → (l.mapM f).run P w = .ok vs w
  | [], [], _, _ => rfl
  | x :: l, v :: vs, hl, h => by
    have h0 := h 0 x v rfl rfl
    have ih := run_mapM (f := f) (l := l) (vs := vs) (by simpa using hl) fun i x y h1 h2 => h (i + 1) x y h1 h2
    rw [List.mapM_cons]
    simp [h0, ih]
def resAt (tmps : Array Value) : ResultVar → Sem Value
  | .tmp t => pure (tmps.getD t undef)
  | .cell a t => do loadVar t (← asAddr (tmps.getD a undef))
theorem ans_out {P : Program} {ty : Nat → Sh} {N : Nat} {e : Env} {a : Act} {w : World} (hs : Sub N e a) : ∀ (l : List ResultVar) (f : List Value → Prop), ans P ty l e w f →
    ∃ vs, f vs ∧ l.length = vs.length ∧ ∀ (i : Nat) (x : ResultVar) (y : Value), l[i]? = some x → vs[i]? = some y → (resAt a.tmps x).run P w = .ok y w
  | [], f, h => ⟨[], h, rfl, fun i x y hx => by simp at hx⟩
  | .tmp t :: r, f, h => by
    simp only [ans] at h
    split at h
    · rename_i v hv
      obtain ⟨vs, h1, h2, h3⟩ := ans_out hs r _ h
      refine ⟨v.1 :: vs, h1, by simp [h2], fun i x y hx hy => ?_⟩
      cases i with
      | zero =>
        simp only [List.getElem?_cons_zero, Option.some.injEq] at hx hy
        subst hx hy
        simp [resAt, hs.at_ t v hv]
      | succ i => exact h3 i x y (by simpa using hx) (by simpa using hy)
    · exact h.elim
  | .cell p t :: r, f, h => by
    simp only [ans] at h
    split at h
    · rename_i v hv
      split at h
      · rename_i ad hp
        obtain ⟨u, hr, h⟩ := exSh_out _ _ h
        obtain ⟨vs, h1, h2, h3⟩ := ans_out hs r _ h
        refine ⟨u :: vs, h1, by simp [h2], fun i x y hx hy => ?_⟩
        cases i with
        | zero =>
          simp only [List.getElem?_cons_zero, Option.some.injEq] at hx hy
          subst hx hy
          have : a.tmps.getD p undef = .pointer (some ad) := by simp [hs.at_ p v hv, hp]
          simp [resAt, this, asAddr, hr]
        | succ i => exact h3 i x y (by simpa using hx) (by simpa using hy)
      · exact h.elim
    · exact h.elim
/-- THE FORMULA OF A FUNCTION IS ENOUGH. -/
theorem calls_of_body {P : Program} {ty : Nat → Sh} {ann : Ann} {f : FuncId} {fn : Func} {c : Code} {vs : List (Value × Bool)} {w : World} {R : Value → World → Prop} {R' : Ending → World → Prop}
    (hm : P.follows .mixedOrders = true) (hf : P.funcs[f]? = some fn) (hb : fn.body = some c) (hn : Nat.ble vs.length fn.ntmps = true)
    (h : Body P ty ann fn c vs w R) (hR : ∀ v w', R v w' → R' (.returned v) w') : Calls P f (firsts vs).toArray w R' := by
  have hlen : ∀ l : List (Value × Bool), (firsts l).length = l.length := fun l => by induction l with
    | nil => rfl
    | cons v r ih => simp [firsts, ih]
  have hn' : vs.length ≤ fn.ntmps := Nat.le_of_ble_eq_true hn
  refine calls_of_wp hf hb (WS_sound hm c _ w _ h _ _ ⟨by simp [hlen]; omega, rfl, fun t v hv => ?_⟩ fun x e' w' a' h1 _ h3 => ?_)
  · obtain ⟨_, h2⟩ := get_envOf vs 0 t v hv
    have h2' : (firsts vs)[t]? = some v.1 := by simpa using h2
    have hlt := (List.getElem?_eq_some_iff.1 h2').1
    simp only
    rw [Array.getElem?_append_left (by simpa using hlt)]
    simpa using h2'
  · have key : answer P ty fn R e' w' → a'.defers = [] ∧ ∃ v, (results fn a'.tmps).run P w' = .ok v w' ∧ R' (.returned v) w' := fun h1 => by
      obtain ⟨vs, hR1, hl, hv⟩ := ans_out h3 _ _ h1
      refine ⟨h3.defers, tupled vs, ?_, hR _ _ hR1⟩
      have hmap := run_mapM (P := P) (w := w') hl hv
      have hres : results fn a'.tmps = (fn.results.mapM (resAt a'.tmps)) >>= fun vs => pure (if h : vs.size = 1 then vs[0] else .tuple vs) := by
        unfold results; congr 1
      rw [hres, Array.mapM_eq_mapM_toList]
      simp only [Sem.run_bind, Sem.run_map, hmap]
      match vs with
      | [] => rfl
      | [v] => rfl
      | v :: u :: r => rfl
    cases x with
    | n => exact key h1
    | r => exact key h1
    | x i => exact h1.elim
    | g i => exact h1.elim
end Vc
