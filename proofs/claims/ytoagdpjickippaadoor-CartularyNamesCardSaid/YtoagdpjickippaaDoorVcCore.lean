/- A checker of its own for plain Go code: a formula 'W' on an operation list whose truth is enough for the model's own 'Code.wp'. No condition: every theorem here is stated for all programs. -/
import Derived.Calls
import Derived.Tactics
import Derived.Orders
import Derived.Still
import Derived.StillTail
import Derived.Deep.Quiet
import Derived.Laws.Sem
import Derived.Laws.World
set_option linter.unusedVariables false
namespace Vc
open Go

/-! ### Shapes of values -/
structure Sl where
  a : Option Addr
  len : Nat
  cap : Nat
inductive Leaf where
  | bool | int (k : IntKind) | str | ptr | addr | slice | map | any | noerr
def Leaf.T : Leaf → Type
  | .bool => Bool
  | .int _ => Int
  | .str => ByteArray
  | .ptr => Option Addr
  | .addr => Addr
  | .slice => Sl
  | .map => Option Nat
  | .any => Value
  | .noerr => Unit
def Leaf.mk : (l : Leaf) → l.T → Value
  | .bool, x => .bool x
  | .int k, x => .int k x
  | .str, x => .string x
  | .ptr, x => .pointer x
  | .addr, x => .pointer (some x)
  | .slice, x => .slice x.a x.len x.cap
  | .map, x => .map x
  | .any, x => x
  | .noerr, _ => .nilIface
/-- A pointer that is known to be none of nil; a Bool that is written out. -/
def Leaf.flag : Leaf → Bool
  | .addr => true
  | _ => false

def exL : List Leaf → (List Value → Prop) → Prop
  | [], f => f []
  | l :: r, f => ∃ x : l.T, exL r (fun vs => f (l.mk x :: vs))
inductive S1 where
  | one (l : Leaf)
  | agg (ls : List Leaf)
def exS1 : S1 → (Value → Prop) → Prop
  | .one l, f => ∃ x : l.T, f (l.mk x)
  | .agg ls, f => exL ls (fun vs => f (.agg vs.toArray))
def exS1s : List S1 → (List Value → Prop) → Prop
  | [], f => f []
  | s :: r, f => exS1 s (fun v => exS1s r (fun vs => f (v :: vs)))
inductive Sh where
  | one (l : Leaf)
  | agg (ls : List Leaf)
  | tup (ss : List S1)
def exSh : Sh → (Value → Prop) → Prop
  | .one l, f => ∃ x : l.T, f (l.mk x)
  | .agg ls, f => exL ls (fun vs => f (.agg vs.toArray))
  | .tup ss, f => exS1s ss (fun vs => f (.tuple vs.toArray))

theorem exL_out : ∀ (ls : List Leaf) (f : List Value → Prop), exL ls f → ∃ vs, f vs
  | [], _, h => ⟨[], h⟩
  | _ :: r, _, ⟨_, hx⟩ => let ⟨_, h⟩ := exL_out r _ hx; ⟨_, h⟩
theorem exS1_out (s : S1) (f : Value → Prop) (h : exS1 s f) : ∃ v, f v := by
  cases s with
  | one l => obtain ⟨x, h⟩ := h; exact ⟨_, h⟩
  | agg ls => obtain ⟨vs, h⟩ := exL_out ls _ h; exact ⟨_, h⟩
theorem exS1s_out : ∀ (ss : List S1) (f : List Value → Prop), exS1s ss f → ∃ vs, f vs
  | [], _, h => ⟨[], h⟩
  | s :: r, _, h => let ⟨_, h1⟩ := exS1_out s _ h; let ⟨_, h2⟩ := exS1s_out r _ h1; ⟨_, h2⟩
theorem exSh_out (s : Sh) (f : Value → Prop) (h : exSh s f) : ∃ v, f v := by
  cases s with
  | one l => obtain ⟨x, h⟩ := h; exact ⟨_, h⟩
  | agg ls => obtain ⟨vs, h⟩ := exL_out ls _ h; exact ⟨_, h⟩
  | tup ss => obtain ⟨vs, h⟩ := exS1s_out ss _ h; exact ⟨_, h⟩

/-! ### The frame, in part -/
abbrev Val := Value × Bool
abbrev Env := List (Nat × Val)
def get : Env → Nat → Option Val
  | [], _ => none
  | (s, v) :: r, t => match Nat.beq s t with
    | true => some v
    | false => get r t
def litB : Value → Bool
  | .bool _ => true
  | .pointer (some _) => true
  | _ => false
def ev (e : Env) : Operand → Option Val
  | .tmp t => get e t
  | .const v => some (v, litB v)
  | .global g => some (.pointer (some ⟨g, 0, none⟩), true)
  | .func f => some (.func (.func f) #[] #[], false)
def vl (e : Env) (x : Operand) : Value := match ev e x with
  | some v => v.1
  | none => undef
def fl (e : Env) (x : Operand) : Bool := match ev e x with
  | some v => v.2
  | none => false
def has (e : Env) (x : Operand) : Bool := match ev e x with
  | some _ => true
  | none => false
def hasAll (e : Env) : List Operand → Bool
  | [] => true
  | x :: r => match has e x with
    | true => hasAll e r
    | false => false

/-- The operands, as a list: of the operations that are served. -/
def opnds : Op → Option (List Operand)
  | .move x | .assign x | .box _ x | .load _ x | .nilCheck x | .unOp _ _ x | .convert _ _ x | .makeInterface _ x
  | .fieldAddr _ x _ | .field _ x _ | .range _ x | .next x _ | .entry x | .extract x _ => some [x]
  | .alloc _ => some []
  | .pick c a b => some [c, a, b]
  | .build _ ps | .buildSlice _ _ ps => some (ps.toList.map (·.2))
  | .store _ a v | .binOp _ _ a v _ | .makeSlice _ a v | .indexAddr _ a v | .index _ a v | .lookup _ a v _ => some [a, v]
  | .makeMap _ none => some []
  | .makeMap _ (some r) => some [r]
  | .slice _ x l h m => some ([x] ++ l.toList ++ h.toList ++ m.toList)
  | .mapUpdate _ m k v | .insert _ m k v => some [m, k, v]
  | .makeFunc _ f c => some (f.toList ++ c.toList)
  | .call { callee := .builtin _, args, .. } => some args.toList
  | .call { callee := .value f, args, .. } => some (f :: args.toList)
  | .call { callee := .invoke r _, args, .. } => some (r :: args.toList)
  | _ => none

theorem opnds_spec {op : Op} {l : List Operand} (h : opnds op = some l) : (∀ cs b, op ≠ .select cs b) ∧ ∀ x ∈ op.operands, x ∈ l := by
  cases op <;> simp only [opnds, Option.some.injEq, reduceCtorEq] at h <;> refine ⟨fun _ _ => by simp, ?_⟩
  case makeMap t r => cases r <;> simp_all [Op.operands]
  case call c =>
    obtain ⟨callee, args, argTypes⟩ := c
    cases callee <;> simp only [Option.some.injEq] at h <;> subst h <;> simp [Op.operands, Call.operands]
  all_goals (subst h; simp [Op.operands])

structure Sub (N : Nat) (e : Env) (a : Act) : Prop where
  size : a.tmps.size = N
  defers : a.defers = []
  at_ : ∀ t v, get e t = some v → a.tmps[t]? = some v.1

theorem Sub.ev {N : Nat} {e : Env} {a : Act} (h : Sub N e a) {x : Operand} {v : Val} (hx : ev e x = some v) : a.eval x = v.1 := by
  cases x with
  | tmp t => simp [Act.eval, h.at_ t v hx]
  | const u => simp only [Vc.ev, Option.some.injEq] at hx; subst hx; rfl
  | global g => simp only [Vc.ev, Option.some.injEq] at hx; subst hx; rfl
  | func f => simp only [Vc.ev, Option.some.injEq] at hx; subst hx; rfl
theorem Sub.vl {N : Nat} {e : Env} {a : Act} (h : Sub N e a) {x : Operand} (hx : has e x = true) : a.eval x = vl e x := by
  unfold has at hx; unfold Vc.vl
  cases hv : Vc.ev e x with
  | none => simp [hv] at hx
  | some v => exact h.ev hv
theorem hasAll_spec {e : Env} : ∀ {l : List Operand}, hasAll e l = true → ∀ x ∈ l, has e x = true
  | y :: r, h, x, hx => by
    simp only [hasAll] at h
    cases hy : has e y with
    | false => simp [hy] at h
    | true =>
      simp only [hy] at h
      cases hx with
      | head => exact hy
      | tail _ hm => exact hasAll_spec h x hm

theorem Sub.exec {N : Nat} {e : Env} {a : Act} (h : Sub N e a) {o : Oper} {l : List Operand} (ho : opnds o.op = some l) (hl : hasAll e l = true) :
    execOp a.eval o = execOp (Vc.vl e) o :=
  execOp_congr o (opnds_spec ho).1 fun x hx => h.vl (hasAll_spec hl x ((opnds_spec ho).2 x hx))

def put (e : Env) : Option Tmp → Val → Env
  | none, _ => e
  | some d, v => (d, v) :: e
def fits (N : Nat) : Option Tmp → Bool
  | none => true
  | some d => Nat.blt d N
theorem get_cons (s : Nat) (v : Val) (e : Env) (t : Nat) : get ((s, v) :: e) t = if s = t then some v else get e t := by
  simp only [get]
  by_cases h : s = t
  · subst h; simp
  · have : Nat.beq s t = false := by
      cases hb : Nat.beq s t with
      | false => rfl
      | true => exact absurd (Nat.eq_of_beq_eq_true hb) h
    simp [this, h]
theorem Sub.put {N : Nat} {e : Env} {a : Act} (h : Sub N e a) {d : Option Tmp} {v : Val} (hd : fits N d = true) : Sub N (Vc.put e d v) (a.put d v.1) := by
  cases d with
  | none => exact h
  | some d =>
    have hlt : d < N := by simpa [fits, Nat.blt_eq] using hd
    refine ⟨by simpa [Act.put] using h.size, by simpa [Act.put] using h.defers, fun t u hu => ?_⟩
    simp only [Vc.put, get_cons] at hu
    simp only [Act.put]
    by_cases hdt : d = t
    · subst hdt
      simp only [if_true, Option.some.injEq] at hu
      subst hu
      simp [h.size, hlt]
    · rw [if_neg hdt] at hu
      rw [Array.getElem?_setIfInBounds_ne hdt]
      exact h.at_ t u hu
/-- A value that is known to be the one of its slot may be laid anew. -/
theorem Sub.lay {N : Nat} {e : Env} {a : Act} (h : Sub N e a) {t : Nat} {v : Val} (b : Bool) (ht : get e t = some v) : Sub N ((t, (v.1, b)) :: e) a := by
  refine ⟨h.size, h.defers, fun s u hu => ?_⟩
  rw [get_cons] at hu
  by_cases hst : t = s
  · subst hst
    simp only [if_true, Option.some.injEq] at hu
    subst hu
    exact h.at_ t v ht
  · rw [if_neg hst] at hu; exact h.at_ s u hu
def memN (t : Nat) : List Nat → Bool
  | [] => false
  | s :: r => match Nat.beq s t with
    | true => true
    | false => memN t r
def dropW (wr : List Nat) : Env → Env
  | [] => []
  | (s, v) :: r => match memN s wr with
    | true => dropW wr r
    | false => (s, v) :: dropW wr r
theorem get_dropW (wr : List Nat) : ∀ (e : Env) (t : Nat) (v : Val), get (dropW wr e) t = some v → memN t wr = false ∧ get e t = some v
  | [], t, v, h => by simp [dropW, get] at h
  | (s, u) :: r, t, v, h => by
    simp only [dropW] at h
    rw [get_cons]
    cases hm : memN s wr with
    | true =>
      simp only [hm] at h
      have := get_dropW wr r t v h
      have hst : s ≠ t := by rintro rfl; rw [hm] at this; cases this.1
      exact ⟨this.1, by rw [if_neg hst]; exact this.2⟩
    | false =>
      simp only [hm] at h
      rw [get_cons] at h
      by_cases hst : s = t
      · subst hst; exact ⟨hm, by simpa using h⟩
      · rw [if_neg hst] at h ⊢; exact get_dropW wr r t v h
theorem memN_spec {t : Nat} : ∀ {l : List Nat}, memN t l = true ↔ t ∈ l
  | [] => by simp [memN]
  | s :: r => by
    simp only [memN]
    cases hb : Nat.beq s t with
    | true => simp [Nat.eq_of_beq_eq_true hb]
    | false =>
      have : t ≠ s := fun h => by subst h; simp at hb
      simp [memN_spec (l := r), this]
end Vc
