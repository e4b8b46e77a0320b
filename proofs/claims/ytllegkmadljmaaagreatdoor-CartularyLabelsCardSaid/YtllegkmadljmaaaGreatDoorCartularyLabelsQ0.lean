/- Texts of this seat in one: made by a program of ours. -/
import Derived.Calls
import Derived.Tactics
import Derived.Orders
import Derived.Still
import Derived.StillTail
import Derived.Deep.Quiet
import Derived.Laws.Sem
import Derived.Laws.World
import Derived.WalkKit
import Derived.Laws.StructEq
import Derived.OrdersHeld
import Derived.Scope
import Derived.Deep.WholeRow
import Derived.Lib.AppendStr
import Derived.MapKept
import Derived.Maps.RangeRun
/- A checker of its own for plain Go code: a formula 'W' on an operation list whose truth is enough for the model's own 'Code.wp'. No condition: every theorem here is stated for all programs. -/
set_option linter.unusedVariables false
namespace Vc
open Go

/-! ### Shapes of values -/
structure Sl where
  a : Option Addr
  len : Nat
  cap : Nat
inductive Leaf where
  | bool | int (k : IntKind) | str | ptr | addr | slice | map | any | noerr
def Leaf.T : Leaf → Type
  | .bool => Bool
  | .int _ => Int
  | .str => ByteArray
  | .ptr => Option Addr
  | .addr => Addr
  | .slice => Sl
  | .map => Option Nat
  | .any => Value
  | .noerr => Unit
def Leaf.mk : (l : Leaf) → l.T → Value
  | .bool, x => .bool x
  | .int k, x => .int k x
  | .str, x => .string x
  | .ptr, x => .pointer x
  | .addr, x => .pointer (some x)
  | .slice, x => .slice x.a x.len x.cap
  | .map, x => .map x
  | .any, x => x
  | .noerr, _ => .nilIface
/-- A pointer that is known to be none of nil; a Bool that is written out. -/
def Leaf.flag : Leaf → Bool
  | .addr => true
  | _ => false

def exL : List Leaf → (List Value → Prop) → Prop
  | [], f => f []
  | l :: r, f => ∃ x : l.T, exL r (fun vs => f (l.mk x :: vs))
inductive S1 where
  | one (l : Leaf)
  | agg (ls : List Leaf)
def exS1 : S1 → (Value → Prop) → Prop
  | .one l, f => ∃ x : l.T, f (l.mk x)
  | .agg ls, f => exL ls (fun vs => f (.agg vs.toArray))
def exS1s : List S1 → (List Value → Prop) → Prop
  | [], f => f []
  | s :: r, f => exS1 s (fun v => exS1s r (fun vs => f (v :: vs)))
inductive Sh where
  | one (l : Leaf)
  | agg (ls : List Leaf)
  | tup (ss : List S1)
def exSh : Sh → (Value → Prop) → Prop
  | .one l, f => ∃ x : l.T, f (l.mk x)
  | .agg ls, f => exL ls (fun vs => f (.agg vs.toArray))
  | .tup ss, f => exS1s ss (fun vs => f (.tuple vs.toArray))

theorem exL_out : ∀ (ls : List Leaf) (f : List Value → Prop), exL ls f → ∃ vs, f vs
  | [], _, h => ⟨[], h⟩
  | _ :: r, _, ⟨_, hx⟩ => let ⟨_, h⟩ := exL_out r _ hx; ⟨_, h⟩
theorem exS1_out (s : S1) (f : Value → Prop) (h : exS1 s f) : ∃ v, f v := by
  cases s with
  | one l => obtain ⟨x, h⟩ := h; exact ⟨_, h⟩
  | agg ls => obtain ⟨vs, h⟩ := exL_out ls _ h; exact ⟨_, h⟩
theorem exS1s_out : ∀ (ss : List S1) (f : List Value → Prop), exS1s ss f → ∃ vs, f vs
  | [], _, h => ⟨[], h⟩
  | s :: r, _, h => let ⟨_, h1⟩ := exS1_out s _ h; let ⟨_, h2⟩ := exS1s_out r _ h1; ⟨_, h2⟩
theorem exSh_out (s : Sh) (f : Value → Prop) (h : exSh s f) : ∃ v, f v := by
  cases s with
  | one l => obtain ⟨x, h⟩ := h; exact ⟨_, h⟩
  | agg ls => obtain ⟨vs, h⟩ := exL_out ls _ h; exact ⟨_, h⟩
  | tup ss => obtain ⟨vs, h⟩ := exS1s_out ss _ h; exact ⟨_, h⟩

/-! ### The frame, in part -/
abbrev Val := Value × Bool
abbrev Env := List (Nat × Val)
def get : Env → Nat → Option Val
  | [], _ => none
  | (s, v) :: r, t => match Nat.beq s t with
    | true => some v
    | false => get r t
def litB : Value → Bool
  | .bool _ => true
  | .pointer (some _) => true
  | _ => false
def ev (e : Env) : Operand → Option Val
  | .tmp t => get e t
  | .const v => some (v, litB v)
  | .global g => some (.pointer (some ⟨g, 0, none⟩), true)
  | .func f => some (.func (.func f) #[] #[], false)
def vl (e : Env) (x : Operand) : Value := match ev e x with
  | some v => v.1
  | none => undef
def fl (e : Env) (x : Operand) : Bool := match ev e x with
  | some v => v.2
  | none => false
def has (e : Env) (x : Operand) : Bool := match ev e x with
  | some _ => true
  | none => false
def hasAll (e : Env) : List Operand → Bool
  | [] => true
  | x :: r => match has e x with
    | true => hasAll e r
    | false => false

/-- The operands, as a list: of the operations that are served. -/
def opnds : Op → Option (List Operand)
  | .move x | .assign x | .box _ x | .load _ x | .nilCheck x | .unOp _ _ x | .convert _ _ x | .makeInterface _ x
  | .fieldAddr _ x _ | .field _ x _ | .range _ x | .next x _ | .entry x | .extract x _ => some [x]
  | .alloc _ => some []
  | .pick c a b => some [c, a, b]
  | .build _ ps | .buildSlice _ _ ps => some (ps.toList.map (·.2))
  | .store _ a v | .binOp _ _ a v _ | .makeSlice _ a v | .indexAddr _ a v | .index _ a v | .lookup _ a v _ => some [a, v]
  | .makeMap _ none => some []
  | .makeMap _ (some r) => some [r]
  | .slice _ x l h m => some ([x] ++ l.toList ++ h.toList ++ m.toList)
  | .mapUpdate _ m k v | .insert _ m k v => some [m, k, v]
  | .makeFunc _ f c => some (f.toList ++ c.toList)
  | .call { callee := .builtin _, args, .. } => some args.toList
  | .call { callee := .value f, args, .. } => some (f :: args.toList)
  | .call { callee := .invoke r _, args, .. } => some (r :: args.toList)
  | _ => none

theorem opnds_spec {op : Op} {l : List Operand} (h : opnds op = some l) : (∀ cs b, op ≠ .select cs b) ∧ ∀ x ∈ op.operands, x ∈ l := by
  cases op <;> simp only [opnds, Option.some.injEq, reduceCtorEq] at h <;> refine ⟨fun _ _ => by simp, ?_⟩
  case makeMap t r => cases r <;> simp_all [Op.operands]
  case call c =>
    obtain ⟨callee, args, argTypes⟩ := c
    cases callee <;> simp only [Option.some.injEq] at h <;> subst h <;> simp [Op.operands, Call.operands]
  all_goals (subst h; simp [Op.operands])

structure Sub (D : List Deferred) (N : Nat) (e : Env) (a : Act) : Prop where
  size : a.tmps.size = N
  defers : a.defers = D
  at_ : ∀ t v, get e t = some v → a.tmps[t]? = some v.1

theorem Sub.ev {D : List Deferred} {N : Nat} {e : Env} {a : Act} (h : Sub D N e a) {x : Operand} {v : Val} (hx : ev e x = some v) : a.eval x = v.1 := by
  cases x with
  | tmp t => simp [Act.eval, h.at_ t v hx]
  | const u => simp only [Vc.ev, Option.some.injEq] at hx; subst hx; rfl
  | global g => simp only [Vc.ev, Option.some.injEq] at hx; subst hx; rfl
  | func f => simp only [Vc.ev, Option.some.injEq] at hx; subst hx; rfl
theorem Sub.vl {D : List Deferred} {N : Nat} {e : Env} {a : Act} (h : Sub D N e a) {x : Operand} (hx : has e x = true) : a.eval x = vl e x := by
  unfold has at hx; unfold Vc.vl
  cases hv : Vc.ev e x with
  | none => simp [hv] at hx
  | some v => exact h.ev hv
theorem hasAll_spec {e : Env} : ∀ {l : List Operand}, hasAll e l = true → ∀ x ∈ l, has e x = true
  | y :: r, h, x, hx => by
    simp only [hasAll] at h
    cases hy : has e y with
    | false => simp [hy] at h
    | true =>
      simp only [hy] at h
      cases hx with
      | head => exact hy
      | tail _ hm => exact hasAll_spec h x hm

theorem Sub.exec {D : List Deferred} {N : Nat} {e : Env} {a : Act} (h : Sub D N e a) {o : Oper} {l : List Operand} (ho : opnds o.op = some l) (hl : hasAll e l = true) :
    execOp a.eval o = execOp (Vc.vl e) o :=
  execOp_congr o (opnds_spec ho).1 fun x hx => h.vl (hasAll_spec hl x ((opnds_spec ho).2 x hx))

def put (e : Env) : Option Tmp → Val → Env
  | none, _ => e
  | some d, v => (d, v) :: e
def fits (N : Nat) : Option Tmp → Bool
  | none => true
  | some d => Nat.blt d N
theorem get_cons (s : Nat) (v : Val) (e : Env) (t : Nat) : get ((s, v) :: e) t = if s = t then some v else get e t := by
  simp only [get]
  by_cases h : s = t
  · subst h; simp
  · have : Nat.beq s t = false := by
      cases hb : Nat.beq s t with
      | false => rfl
      | true => exact absurd (Nat.eq_of_beq_eq_true hb) h
    simp [this, h]
theorem Sub.put {D : List Deferred} {N : Nat} {e : Env} {a : Act} (h : Sub D N e a) {d : Option Tmp} {v : Val} (hd : fits N d = true) : Sub D N (Vc.put e d v) (a.put d v.1) := by
  cases d with
  | none => exact h
  | some d =>
    have hlt : d < N := by simpa [fits, Nat.blt_eq] using hd
    refine ⟨by simpa [Act.put] using h.size, by simpa [Act.put] using h.defers, fun t u hu => ?_⟩
    simp only [Vc.put, get_cons] at hu
    simp only [Act.put]
    by_cases hdt : d = t
    · subst hdt
      simp only [if_true, Option.some.injEq] at hu
      subst hu
      simp [h.size, hlt]
    · rw [if_neg hdt] at hu
      rw [Array.getElem?_setIfInBounds_ne hdt]
      exact h.at_ t u hu
/-- A value that is known to be the one of its slot may be laid anew. -/
theorem Sub.lay {D : List Deferred} {N : Nat} {e : Env} {a : Act} (h : Sub D N e a) {t : Nat} {v : Val} (b : Bool) (ht : get e t = some v) : Sub D N ((t, (v.1, b)) :: e) a := by
  refine ⟨h.size, h.defers, fun s u hu => ?_⟩
  rw [get_cons] at hu
  by_cases hst : t = s
  · subst hst
    simp only [if_true, Option.some.injEq] at hu
    subst hu
    exact h.at_ t v ht
  · rw [if_neg hst] at hu; exact h.at_ s u hu
def memN (t : Nat) : List Nat → Bool
  | [] => false
  | s :: r => match Nat.beq s t with
    | true => true
    | false => memN t r
def dropW (wr : List Nat) : Env → Env
  | [] => []
  | (s, v) :: r => match memN s wr with
    | true => dropW wr r
    | false => (s, v) :: dropW wr r
theorem get_dropW (wr : List Nat) : ∀ (e : Env) (t : Nat) (v : Val), get (dropW wr e) t = some v → memN t wr = false ∧ get e t = some v
  | [], t, v, h => by simp [dropW, get] at h
  | (s, u) :: r, t, v, h => by
    simp only [dropW] at h
    rw [get_cons]
    cases hm : memN s wr with
    | true =>
      simp only [hm] at h
      have := get_dropW wr r t v h
      have hst : s ≠ t := by rintro rfl; rw [hm] at this; cases this.1
      exact ⟨this.1, by rw [if_neg hst]; exact this.2⟩
    | false =>
      simp only [hm] at h
      rw [get_cons] at h
      by_cases hst : s = t
      · subst hst; exact ⟨hm, by simpa using h⟩
      · rw [if_neg hst] at h ⊢; exact get_dropW wr r t v h
theorem memN_spec {t : Nat} : ∀ {l : List Nat}, memN t l = true ↔ t ∈ l
  | [] => by simp [memN]
  | s :: r => by
    simp only [memN]
    cases hb : Nat.beq s t with
    | true => simp [Nat.eq_of_beq_eq_true hb]
    | false =>
      have : t ≠ s := fun h => by subst h; simp at hb
      simp [memN_spec (l := r), this]
end Vc

/- One operation as a formula, and that the formula is enough. No condition: for all programs. -/
set_option linter.unusedVariables false
namespace Vc
open Go

section
variable (P : Program) (ty : Nat → Sh)

/-- The integer at a place of a text, nought beyond it. -/
def byteAt (s : ByteArray) (i : Int) : Int := ((s.data.toList[i.toNat]?).getD 0).toNat
def subA (a : Option Addr) (cap l sz : Nat) : Option Addr := if cap = l then a else a.map (·.add (l * sz))

/-- The same world but for draws. -/
def Drew (w w2 : World) : Prop := ∃ n, w2 = w.drewN n
/-- How an operation is asked: as it comes; where orders are open: it reads and calls what reads; it reads. -/
inductive Md where
  | full | quiet | still | held (S : World → Prop)
/-- What asks neither memory nor the tape. -/
def pureRun {α : Type} (P : Program) : Sem α → Option α
  | .pure a => some a
  | .program k => pureRun P (k P)
  | .mark _ k => pureRun P k
  | _ => none
theorem pureRun_spec {α : Type} {P : Program} : ∀ {s : Sem α} {a : α}, pureRun P s = some a → ∀ w, s.run P w = .ok a w
  | .pure _, _, h, w => by simp only [pureRun, Option.some.injEq] at h; subst h; rfl
  | .program k, _, h, w => by simp only [Sem.run]; exact pureRun_spec (s := k P) h w
  | .mark _ k, _, h, w => by simp only [Sem.run]; exact pureRun_spec (s := k) h w
/-- By the operation's own run, where it asks neither memory nor the tape; a call. -/
def run1 (q : Md) (o : Oper) (ρ : Operand → Value) (fl : Bool) (w : World) (K : Value → Bool → World → Prop) : Prop :=
  match pureRun P (execOp ρ o) with
  | some (.value v) => K v fl w
  | some (.enter f args) => match q with
    | .full => Calls P f args w fun e w'' => exSh (ty o.type) fun v => e = .returned v ∧ K v false w''
    | .quiet => exSh (ty o.type) fun v => (∀ w2, Drew w w2 → Calls P f args w2 fun e w'' => e = .returned v ∧ Drew w w'') ∧ K v false w
    | _ => False
  | _ => False
/-- A new block. -/
def runA (q : Md) (o : Oper) (ρ : Operand → Value) (fl : Bool) (w : World) (K : Value → Bool → World → Prop) : Prop :=
  match q with
  | .full => match (execOp ρ o).run P w with
    | .ok (.value v) w' => ∀ w2, w2 = w' → K v fl w2
    | _ => False
  | _ => False
/-- Whatever it comes to, that it comes to it is to be shown. -/
def runS (q : Md) (sh : Sh) (s : Sem Value) (w : World) (K : Value → Bool → World → Prop) : Prop :=
  match q with
  | .full => ∃ w', exSh sh fun v => s.run P w = .ok v w' ∧ K v false w'
  | .held S => exSh sh fun v => (∀ w2, S w2 → s.run P w2 = .ok v w2) ∧ K v false w
  | _ => False

/-- A range's next step: its end, or a key and a value. -/
def wNext (q : Md) (str : Bool) (sh : Sh) (s : Sem Value) (w : World) (K : Value → Bool → World → Prop) : Prop :=
  match q with
  | .full => (∃ w', s.run P w = .ok (.tuple #[.bool false]) w' ∧ K (.tuple #[.bool false]) false w') ∨
    (match str with
    | true => ∃ (w' : World) (p r : Int), s.run P w = .ok (.tuple #[.bool true, .int .i64 p, .int .i32 r]) w' ∧ K (.tuple #[.bool true, .int .i64 p, .int .i32 r]) false w'
    | false => ∃ (w' : World) (k v : Value), s.run P w = .ok (.tuple #[.bool true, k, v]) w' ∧ K (.tuple #[.bool true, k, v]) false w')
  | _ => False
/-- The key and the value of a range's step, the key a text. -/
def wEntry (q : Md) (s : Sem Value) (w : World) (K : Value → Bool → World → Prop) : Prop :=
  match q with
  | .full => ∃ (w' : World) (k : ByteArray) (v : Value), s.run P w = .ok (.tuple #[.string k, v]) w' ∧ K (.tuple #[.string k, v]) false w'
  | _ => False

def one (t : TypeId) : Bool := match P.underlying t with
  | some (.struct _) | some (.array _ _) | none => false
  | some _ => true
def size1 (t : TypeId) : Bool := match P.info? t with
  | some i => Nat.beq i.size 1
  | none => false

def wLoad (q : Md) (t : TypeId) (x : Value) (w : World) (K : Value → Bool → World → Prop) : Prop :=
  match x with
  | .pointer (some a) => match one P t with
    | true => match ty t with
      | .one l => match q with
        | .held S => ∃ x : l.T, (∀ w2, S w2 → w2.cell? a = some (l.mk x)) ∧ K (l.mk x) l.flag w
        | _ => ∃ x : l.T, w.cell? a = some (l.mk x) ∧ K (l.mk x) l.flag w
      | _ => False
    | false => match q with
      | .full => exSh (ty t) fun v => (loadVar t a).run P w = .ok v w ∧ K v false w
      | .held S => exSh (ty t) fun v => (∀ w2, S w2 → (loadVar t a).run P w2 = .ok v w2) ∧ K v false w
      | _ => False
  | _ => False
/-- A cell that may be written. -/
def Wr (w : World) (a : Addr) : Prop := (∃ v, w.cell? a = some v) ∧ w.frozen? a = false
def wStore (q : Md) (t : TypeId) (x v : Value) (w : World) (K : Value → Bool → World → Prop) : Prop :=
  match q with
  | .quiet | .still | .held _ => False
  | .full =>
  match x with
  | .pointer (some a) => match size1 P t with
    | true => match v with
      | .agg _ | .tuple _ => False
      | _ => Wr w a ∧ ∀ w2, w2 = w.setCell a v → K undef false w2
    | false => ∃ w', (storeVar t a v).run P w = .ok () w' ∧ K undef false w'
  | _ => False
def wNil (x : Value) (f : Bool) (w : World) (K : Value → Bool → World → Prop) : Prop :=
  match f with
  | true => match x with
    | .pointer (some a) => K (.pointer (some a)) true w
    | _ => False
  | false => match x with
    | .pointer p => ∃ a, p = some a ∧ K (.pointer (some a)) true w
    | _ => False
def wIndex (q : Md) (o : Oper) (ρ : Operand → Value) (t : TypeId) (x i : Value) (w : World) (K : Value → Bool → World → Prop) : Prop :=
  match P.underlying t with
  | some .string => match x, i with
    | .string s, .int _ i => (0 ≤ i ∧ i < s.size) ∧ K (.int .u8 (byteAt s i)) false w
    | _, _ => False
  | _ => runS P q (ty o.type) (Instr.index t x i) w K
def wIndexAddr (t : TypeId) (x i : Value) (w : World) (K : Value → Bool → World → Prop) : Prop :=
  match P.underlying t with
  | some (.slice e) => match x, i with
    | .slice b len _, .int _ i => (0 ≤ i ∧ i < len) ∧ ∃ a, b = some a ∧ match P.info? e with
      | some ti => K (.pointer (some (a.add (i.toNat * ti.size)))) true w
      | none => False
    | _, _ => False
  | some (.array n e) => match x, i with
    | .pointer (some a), .int _ i => (0 ≤ i ∧ i < n) ∧ match P.info? e with
      | some ti => K (.pointer (some (a.add (i.toNat * ti.size)))) true w
      | none => False
    | _, _ => False
  | _ => False
def wSlice (t : TypeId) (x : Value) (lo hi mx : Option Value) (w : World) (K : Value → Bool → World → Prop) : Prop :=
  match mx with
  | some _ => False
  | none =>
  match P.underlying t with
  | some .string => match x with
    | .string s => match lo, hi with
      | none, none => K (.string (s.extract 0 s.size)) false w
      | some (.int _ l), none => (0 ≤ l ∧ l ≤ s.size) ∧ K (.string (s.extract l.toNat s.size)) false w
      | none, some (.int _ h) => (0 ≤ h ∧ h ≤ s.size) ∧ K (.string (s.extract 0 h.toNat)) false w
      | some (.int _ l), some (.int _ h) => (0 ≤ l ∧ l ≤ h ∧ h ≤ s.size) ∧ K (.string (s.extract l.toNat h.toNat)) false w
      | _, _ => False
    | _ => False
  | some (.slice e) => match x, P.info? e with
    | .slice a len cap, some ti => match lo, hi with
      | none, none => K (.slice (subA a cap 0 ti.size) len cap) false w
      | some (.int _ l), none => (0 ≤ l ∧ l ≤ len) ∧ K (.slice (subA a cap l.toNat ti.size) (len - l.toNat) (cap - l.toNat)) false w
      | none, some (.int _ h) => (0 ≤ h ∧ h ≤ cap) ∧ K (.slice (subA a cap 0 ti.size) h.toNat cap) false w
      | some (.int _ l), some (.int _ h) => (0 ≤ l ∧ l ≤ h ∧ h ≤ cap) ∧ K (.slice (subA a cap l.toNat ti.size) (h.toNat - l.toNat) (cap - l.toNat)) false w
      | _, _ => False
    | _, _ => False
  | some (.array n e) => match x, P.info? e with
    | .pointer (some a), some ti => match lo, hi with
      | none, none => K (.slice (subA (some a) n 0 ti.size) n n) false w
      | some (.int _ l), none => (0 ≤ l ∧ l ≤ n) ∧ K (.slice (subA (some a) n l.toNat ti.size) (n - l.toNat) (n - l.toNat)) false w
      | none, some (.int _ h) => (0 ≤ h ∧ h ≤ n) ∧ K (.slice (subA (some a) n 0 ti.size) h.toNat n) false w
      | some (.int _ l), some (.int _ h) => (0 ≤ l ∧ l ≤ h ∧ h ≤ n) ∧ K (.slice (subA (some a) n l.toNat ti.size) (h.toNat - l.toNat) (n - l.toNat)) false w
      | _, _ => False
    | _, _ => False
  | _ => False
def sameK : IntKind → IntKind → Bool
  | .i8, .i8 | .i16, .i16 | .i32, .i32 | .i64, .i64 | .u8, .u8 | .u16, .u16 | .u32, .u32 | .u64, .u64 => true
  | _, _ => false
theorem sameK_spec {a b : IntKind} (h : sameK a b = true) : a = b := by cases a <;> cases b <;> first | rfl | cases h
def isNilP : Operand → Bool
  | .const (.pointer none) => true
  | _ => false
def isNilS : Operand → Bool
  | .const (.slice none 0 0) => true
  | _ => false
/-- Two parts of one kind, held against one another. -/
def leafEq : Value → Value → Option Bool
  | .int k a, .int k' b => match sameK k k' with
    | true => some (a == b)
    | false => none
  | .string a, .string b => some (a.toList == b.toList)
  | .bool a, .bool b => some (a == b)
  | _, _ => none
def allEq : List Value → List Value → Option Bool
  | [], [] => some true
  | [x], [y] => leafEq x y
  | x :: r, y :: q => match leafEq x y with
    | some a => match allEq r q with
      | some b => some (a && b)
      | none => none
    | none => none
  | _, _ => none
def leafT : Option TypeDesc → Value → Bool
  | some (.int _), .int _ _ => true
  | some .string, .string _ => true
  | some .bool, .bool _ => true
  | _, _ => false
def fieldsOK (P : Program) : Nat → List Field → List Value → Bool
  | _, [], [] => true
  | i, f :: fs, v :: vs => match f.name != "_" with
    | true => match Nat.beq f.offset i with
      | true => match leafT (P.underlying f.type) v with
        | true => fieldsOK P (i + 1) fs vs
        | false => false
      | false => false
    | false => false
  | _, _, _ => false
/-- A struct of integers, texts and bools alone. -/
def flatB (P : Program) (t : TypeId) (vs : List Value) : Bool := match P.underlying t with
  | some (.struct fs) => match P.stoodInHeld t with
    | true => false
    | false => match P.eqGuardType P.depth t with
      | true => false
      | false => fieldsOK P 0 fs.toList vs
  | _ => false
def wAggEq (neg : Bool) (t : TypeId) (xs : Array Value) (y : Value) (w : World) (K : Value → Bool → World → Prop) : Prop :=
  match y with
  | .agg ys => match flatB P t xs.toList with
    | true => match allEq xs.toList ys.toList with
      | some b => match neg with
        | true => K (.bool (!b)) false w
        | false => K (.bool b) false w
      | none => False
    | false => False
  | _ => False
def wBin (q : Md) (o : Oper) (ρ : Operand → Value) (op : BinOp) (t : TypeId) (yo : Operand) (x y : Value) (w : World) (K : Value → Bool → World → Prop) : Prop :=
  match op with
  | .quo => match x, y with
    | .int k a, .int k' b => match sameK k k' with
      | true => b ≠ 0 ∧ K (.int k (k.wrap (a.tdiv b))) false w
      | false => False
    | _, _ => False
  | .rem => match x, y with
    | .int k a, .int k' b => match sameK k k' with
      | true => b ≠ 0 ∧ K (.int k (a.tmod b)) false w
      | false => False
    | _, _ => False
  | .shl => match x, y with
    | .int k a, .int _ b => 0 ≤ b ∧ K (.int k (k.wrap (a * 2 ^ (min b.toNat k.bits)))) false w
    | _, _ => False
  | .shr => match x, y with
    | .int k a, .int _ b => 0 ≤ b ∧ K (.int k (a.fdiv (2 ^ (min b.toNat k.bits)))) false w
    | _, _ => False
  | .add => match x with
    | .string a => match y with
      | .string b => a.size + b.size ≤ 9223372036854775807 ∧ K (.string (a ++ b)) false w
      | _ => False
    | _ => run1 P ty q o ρ false w K
  | .eql => match x with
    | .pointer p => match isNilP yo with
      | true => match P.underlying t with
        | some (.pointer _) => K (.bool p.isNone) false w
        | _ => False
      | false => runS P q (.one .bool) (binOp op t x y) w K
    | .slice a _ _ => match isNilS yo with
      | true => match P.underlying t with
        | some (.slice _) => K (.bool a.isNone) false w
        | _ => False
      | false => False
    | .agg xs => wAggEq P false t xs y w K
    | _ => run1 P ty q o ρ false w K
  | .neq => match x with
    | .pointer p => match isNilP yo with
      | true => match P.underlying t with
        | some (.pointer _) => K (.bool (!p.isNone)) false w
        | _ => False
      | false => runS P q (.one .bool) (binOp op t x y) w K
    | .slice a _ _ => match isNilS yo with
      | true => match P.underlying t with
        | some (.slice _) => K (.bool (!a.isNone)) false w
        | _ => False
      | false => False
    | .agg xs => wAggEq P true t xs y w K
    | _ => run1 P ty q o ρ false w K
  | _ => run1 P ty q o ρ false w K
def wConv (q : Md) (o : Oper) (s d : TypeId) (x : Value) (w : World) (K : Value → Bool → World → Prop) : Prop :=
  match x with
  | .int _ n => match P.underlying d with
    | some (.int k) => K (.int k (k.wrap n)) false w
    | _ => runS P q (ty o.type) (convert s d x) w K
  | _ => runS P q (ty o.type) (convert s d x) w K

/-- The builtins that are met by their runs. -/
def bSem (b : Builtin) (ats : Array TypeId) (t : TypeId) (args : Array Value) : Option (Sem Value) :=
  match b with
  | .append => some (Builtin.append_ ats t args)
  | .copy => some (Builtin.copy_ ats t args)
  | .delete => some (Builtin.delete_ ats t args)
  | .cap => some (Builtin.cap_ ats t args)
  | .len => some (Builtin.len_ ats t args)
  | .clear => some (Builtin.clear_ ats t args)
  | _ => none
def wB (q : Md) (o : Oper) (ρ : Operand → Value) (b : Builtin) (c : Call) (w : World) (K : Value → Bool → World → Prop) : Prop :=
  match bSem b c.argTypes o.type (c.args.map ρ) with
  | some s => runS P q (ty o.type) s w K
  | none => False
/-- A builtin, or a call. -/
def wCall (q : Md) (o : Oper) (ρ : Operand → Value) (c : Call) (w : World) (K : Value → Bool → World → Prop) : Prop :=
  match c.callee with
  | .builtin b => match b with
    | .len => match c.args.toList with
      | [x] => match ρ x with
        | .string s => match c.argTypes.toList with
          | [t] => match P.underlying t with
            | some .string => K (.int .i64 s.size) false w
            | _ => False
          | _ => False
        | .slice _ n _ => match c.argTypes.toList with
          | [t] => match P.underlying t with
            | some (.slice _) => K (.int .i64 n) false w
            | _ => False
          | _ => False
        | _ => wB P ty q o ρ b c w K
      | _ => False
    | .min | .max => run1 P ty q o ρ false w K
    | _ => wB P ty q o ρ b c w K
  | _ => run1 P ty q o ρ false w K

def wOp1 (q : Md) (o : Oper) (ρ : Operand → Value) (φ : Operand → Bool) (w : World) (K : Value → Bool → World → Prop) : Prop :=
  match o.op with
  | .move x | .assign x => K (ρ x) (φ x) w
  | .load t x => wLoad P ty q t (ρ x) w K
  | .store t x v => wStore P q t (ρ x) (ρ v) w K
  | .nilCheck x => wNil (ρ x) (φ x) w K
  | .index t x i => wIndex P ty q o ρ t (ρ x) (ρ i) w K
  | .indexAddr t x i => wIndexAddr P t (ρ x) (ρ i) w K
  | .slice t x lo hi mx => wSlice P t (ρ x) (lo.map ρ) (hi.map ρ) (mx.map ρ) w K
  | .binOp op t x y _ => wBin P ty q o ρ op t y (ρ x) (ρ y) w K
  | .convert s d x => match P.underlying s with
    | some _ => wConv P ty q o s d (ρ x) w K
    | none => False
  | .call c => wCall P ty q o ρ c w K
  | .fieldAddr .. => run1 P ty q o ρ true w K
  | .alloc _ | .box .. => runA P q o ρ true w K
  | .buildSlice .. | .makeMap .. => runA P q o ρ false w K
  | .unOp _ _ x => run1 P ty q o ρ (φ x) w K
  | .build .. | .field .. | .extract .. | .makeFunc .. | .makeInterface .. => run1 P ty q o ρ false w K
  | .makeSlice t l c => runS P q (ty o.type) (Instr.makeSlice t (ρ l) (ρ c)) w K
  | .lookup t x i ok => runS P q (ty o.type) (Instr.lookup t (ρ x) (ρ i) ok) w K
  | .next it s => wNext P q s (ty o.type) (Instr.next (ρ it) s o.type) w K
  | .entry it => wEntry P q (Instr.entry (ρ it)) w K
  | .range t x => runS P q (.one .addr) (Instr.range t (ρ x)) w K
  | .mapUpdate t m k v | .insert t m k v => match q with
    | .quiet | .still | .held _ => False
    | .full => ∃ w', (Instr.mapUpdate t (ρ m) (ρ k) (ρ v)).run P w = .ok () w' ∧ K undef false w'
  | _ => False

/-- What it is enough for. -/
def Good (o : Oper) (ρ : Operand → Value) (w : World) (K : Value → Bool → World → Prop) : Prop :=
  match (execOp ρ o).run P w with
  | .ok (.value v) w' => ∃ b, K v b w'
  | .ok .skip w' => ∃ b, K undef b w'
  | .ok (.enter f args) w' => Calls P f args w' fun e w'' => ∃ v, e = .returned v ∧ ∃ b, K v b w''
  | _ => False
/-- .. and where it reads alone. -/
def GoodS (o : Oper) (ρ : Operand → Value) (w : World) (K : Value → Bool → World → Prop) : Prop :=
  ∃ v b, K v b w ∧ ∀ w2, w2.heap = w.heap → (execOp ρ o).run P w2 = .ok (.value v) w2
def GoodQ (o : Oper) (ρ : Operand → Value) (w : World) (K : Value → Bool → World → Prop) : Prop :=
  GoodS P o ρ w K ∨
  (∃ f args v b, K v b w ∧ (∀ w2, (execOp ρ o).run P w2 = .ok (.enter f args) w2) ∧ ∀ w2, Drew w w2 → Calls P f args w2 fun e w'' => e = .returned v ∧ Drew w w'')
def Gd (q : Md) (o : Oper) (ρ : Operand → Value) (w : World) (K : Value → Bool → World → Prop) : Prop :=
  match q with
  | .full => Good P o ρ w K
  | .quiet => GoodQ P o ρ w K
  | .still => GoodS P o ρ w K
  | .held S => ∃ v b, K v b w ∧ ∀ w2, S w2 → (execOp ρ o).run P w2 = .ok (.value v) w2
end

section
variable {P : Program} {q : Md} {ty : Nat → Sh} {t : TypeId} {o : Oper} {ρ : Operand → Value} {φ : Operand → Bool} {w : World} {K : Value → Bool → World → Prop}

theorem gd_mk {v : Value} {b : Bool} (hk : K v b w) (h : ∀ w2, (execOp ρ o).run P w2 = .ok (.value v) w2) : Gd P q o ρ w K := by
  cases q
  · show Good P o ρ w K
    unfold Good; rw [h w]; exact ⟨b, hk⟩
  · exact .inl ⟨v, b, hk, fun w2 _ => h w2⟩
  · exact ⟨v, b, hk, fun w2 _ => h w2⟩
  · exact ⟨v, b, hk, fun w2 _ => h w2⟩
theorem gd_of_run1 {f : Bool} (h : run1 P ty q o ρ f w K) : Gd P q o ρ w K := by
  unfold run1 at h
  split at h
  · rename_i v hr
    exact gd_mk h fun w2 => pureRun_spec hr w2
  · rename_i f args hr
    cases q
    · show Good P o ρ w K
      unfold Good
      rw [pureRun_spec hr w]
      exact h.mono fun _ _ hh => (exSh_out _ _ hh).imp fun _ hk => ⟨hk.1, _, hk.2⟩
    · obtain ⟨v, hc, hk⟩ := exSh_out _ _ h
      exact .inr ⟨f, args, v, _, hk, fun w2 => pureRun_spec hr w2, hc⟩
    · exact h.elim
    · exact h.elim
  · exact h.elim
theorem gd_of_runA {f : Bool} (h : runA P q o ρ f w K) : Gd P q o ρ w K := by
  unfold runA at h
  cases q
  · simp only at h
    show Good P o ρ w K
    unfold Good
    cases hr : (execOp ρ o).run P w with
    | halt x w' => simp [hr] at h
    | ok n w' =>
      simp only [hr] at h
      cases n <;> simp only at h
      case value v => exact ⟨_, h _ rfl⟩
  · exact h.elim
  · exact h.elim
  · exact h.elim
theorem good_of_skip {b : Bool} {w' : World} (h : (execOp ρ o).run P w = .ok .skip w') (hk : K undef b w') : Gd P .full o ρ w K := by
  show Good P o ρ w K
  unfold Good; rw [h]; exact ⟨b, hk⟩
theorem gd_of_runS {sh : Sh} {s : Sem Value} (hs : ∀ w v w', s.run P w = .ok v w' → (execOp ρ o).run P w = .ok (.value v) w') (h : runS P q sh s w K) : Gd P q o ρ w K := by
  cases q
  · obtain ⟨w', h⟩ := h
    obtain ⟨v, hr, hk⟩ := exSh_out _ _ h
    show Good P o ρ w K
    unfold Good; rw [hs w v w' hr]; exact ⟨_, hk⟩
  · exact h.elim
  · exact h.elim
  · obtain ⟨v, hr, hk⟩ := exSh_out _ _ h
    exact ⟨v, _, hk, fun w2 hS => hs w2 v w2 (hr w2 hS)⟩

theorem gd_of_next {sh : Sh} {str : Bool} {s : Sem Value} (hs : ∀ w v w', s.run P w = .ok v w' → (execOp ρ o).run P w = .ok (.value v) w') (h : wNext P q str sh s w K) : Gd P q o ρ w K := by
  cases q
  · rcases h with ⟨w', hr, hk⟩ | h
    · show Good P o ρ w K
      unfold Good; rw [hs w _ w' hr]; exact ⟨_, hk⟩
    · show Good P o ρ w K
      cases str with
      | true =>
        obtain ⟨w', p, r, hr, hk⟩ := h
        unfold Good; rw [hs w _ w' hr]; exact ⟨_, hk⟩
      | false =>
        obtain ⟨w', k, v, hr, hk⟩ := h
        unfold Good; rw [hs w _ w' hr]; exact ⟨_, hk⟩
  all_goals exact h.elim
theorem gd_of_entry {s : Sem Value} (hs : ∀ w v w', s.run P w = .ok v w' → (execOp ρ o).run P w = .ok (.value v) w') (h : wEntry P q s w K) : Gd P q o ρ w K := by
  cases q
  · obtain ⟨w', k, v, hr, hk⟩ := h
    show Good P o ρ w K
    unfold Good; rw [hs w _ w' hr]; exact ⟨_, hk⟩
  all_goals exact h.elim
theorem run_isAgg (h : one P t = true) : (isAgg t).run P w = Result.ok false w := by
  unfold one at h
  cases hu : P.underlying t with
  | none => simp [hu] at h
  | some d => cases d <;> first | (simp [hu] at h; done) | simp [isAgg, run_underlying hu]
theorem run_sizeOne (h : size1 P t = true) : (Go.sizeOf t).run P w = Result.ok 1 w := by
  unfold size1 at h
  cases hu : P.info? t with
  | none => simp [hu] at h
  | some d =>
    have : d.size = 1 := by rw [hu] at h; exact Nat.eq_of_beq_eq_true h
    simp [Go.sizeOf, typeInfo, hu, this]
theorem gd_heap {v : Value} {b : Bool} (hq : ∀ S, q ≠ .held S) (hk : K v b w) (h : ∀ w2, w2.heap = w.heap → (execOp ρ o).run P w2 = .ok (.value v) w2) : Gd P q o ρ w K := by
  cases q
  · show Good P o ρ w K
    unfold Good; rw [h w rfl]; exact ⟨b, hk⟩
  · exact .inl ⟨v, b, hk, h⟩
  · exact ⟨v, b, hk, h⟩
  · exact absurd rfl (hq _)
theorem good_load {x : Operand} (ho : o.op = .load t x) (h : wLoad P ty q t (ρ x) w K) : Gd P q o ρ w K := by
  unfold wLoad at h
  split at h
  · rename_i a hx
    split at h
    · rename_i h1
      split at h
      · split at h
        · obtain ⟨x, hc, hk⟩ := h
          refine ⟨_, _, hk, fun w2 hw2 => ?_⟩
          have hc2 := hc w2 hw2
          simp [execOp, ho, hx, Instr.loadAt, Instr.sureAddr, loadVar, run_isAgg h1, hc2]
        · rename_i hq
          obtain ⟨x, hc, hk⟩ := h
          refine gd_heap (fun S => hq S) hk fun w2 hw2 => ?_
          have hc2 : w2.cell? a = some (Leaf.mk _ x) := by rw [← hc]; unfold World.cell?; rw [hw2]
          simp [execOp, ho, hx, Instr.loadAt, Instr.sureAddr, loadVar, run_isAgg h1, hc2]
      · exact h.elim
    · cases q
      · obtain ⟨v, hr, hk⟩ := exSh_out _ _ h
        show Good P o ρ w K
        have hrun : (execOp ρ o).run P w = .ok (.value v) w := by simp [execOp, ho, hx, Instr.loadAt, Instr.sureAddr, hr]
        unfold Good; rw [hrun]; exact ⟨_, hk⟩
      · exact h.elim
      · exact h.elim
      · obtain ⟨v, hr, hk⟩ := exSh_out _ _ h
        refine ⟨v, _, hk, fun w2 hS => ?_⟩
        have hr2 := hr w2 hS
        simp [execOp, ho, hx, Instr.loadAt, Instr.sureAddr, hr2]
  · exact h.elim
theorem good_store {x v : Operand} (ho : o.op = .store t x v) (h : wStore P q t (ρ x) (ρ v) w K) : Gd P q o ρ w K := by
  unfold wStore at h
  cases q
  case quiet => exact h.elim
  case still => exact h.elim
  case held => exact h.elim
  simp only at h
  split at h
  · rename_i a hx
    split at h
    · rename_i h1
      have key : ∀ u : Value, ρ v = u → (∀ c, u ≠ .agg c) → (∀ c, u ≠ .tuple c) → (Wr w a ∧ ∀ w2, w2 = w.setCell a u → K undef false w2) → Gd P .full o ρ w K := by
        intro u hu n1 n2 ⟨⟨⟨old, hc⟩, hf⟩, hk⟩
        refine good_of_skip (w' := w.setCell a u) ?_ (hk _ rfl)
        have hcells : u.cells = #[u] := by cases u <;> first | rfl | exact absurd rfl (n1 _)
        have hst : (store a u).run P w = .ok () (w.setCell a u) := by
          cases u <;> first | exact absurd rfl (n1 _) | exact absurd rfl (n2 _) | (rw [run_store _ _ _ _ _ rfl]; simp [hc, hf])
        simp [execOp, ho, hx, hu, Instr.storeAt, Instr.sureAddr, storeVar, run_sizeOne h1, hcells, storeCells, Addr.add, hst]
      revert h
      generalize hv : ρ v = u
      intro h
      cases u <;> first | exact h.elim | exact key _ hv (fun _ => by simp) (fun _ => by simp) h
    · obtain ⟨w', hr, hk⟩ := h
      refine good_of_skip ?_ hk
      simp [execOp, ho, hx, Instr.storeAt, Instr.sureAddr, hr]
  · exact h.elim
theorem good_nil {x : Operand} {f : Bool} (ho : o.op = .nilCheck x) (h : wNil (ρ x) f w K) : Gd P q o ρ w K := by
  unfold wNil at h
  split at h
  · split at h
    · rename_i a hx
      refine gd_mk h fun w2 => ?_
      simp [execOp, ho, hx]
    · exact h.elim
  · split at h
    · rename_i p hx
      obtain ⟨a, rfl, hk⟩ := h
      refine gd_mk hk fun w2 => ?_
      simp [execOp, ho, hx]
    · exact h.elim
theorem run_under {d : TypeDesc} (h : P.underlying t = some d) : (underlying t).run P w = Result.ok d w := by
  exact run_underlying h w
theorem run_size {i : TypeInfo} (h : P.info? t = some i) : (Go.sizeOf t).run P w = Result.ok i.size w := by
  simp [Go.sizeOf, typeInfo, h]
theorem good_index {x i : Operand} (ho : o.op = .index t x i) (h : wIndex P ty q o ρ t (ρ x) (ρ i) w K) : Gd P q o ρ w K := by
  unfold wIndex at h
  split at h
  · rename_i hu
    split at h
    · rename_i s k n hx hi
      obtain ⟨⟨h0, h1⟩, hk⟩ := h
      refine gd_mk hk fun w2 => ?_
      have hlt : n.toNat < s.size := by omega
      have hb : s[n.toNat]? = some s[n.toNat] := getElem?_pos s n.toNat hlt
      have hb2 : byteAt s n = (s[n.toNat].toNat : Int) := by
        unfold byteAt
        have : s.data.toList[n.toNat]? = some s[n.toNat] := by
          rw [List.getElem?_eq_getElem (by simpa using hlt)]; rfl
        rw [this]; rfl
      rw [hb2]
      simp [execOp, ho, hx, hi, Instr.index, asIntOf, run_under hu, h0, hb]
    · exact h.elim
  · exact gd_of_runS (fun w v w' hr => by simp [execOp, ho, hr]) h
theorem good_indexAddr {x i : Operand} (ho : o.op = .indexAddr t x i) (h : wIndexAddr P t (ρ x) (ρ i) w K) : Gd P q o ρ w K := by
  unfold wIndexAddr at h
  split at h
  · rename_i e hu
    split at h
    · rename_i b len cap k n hx hi
      obtain ⟨⟨h0, h1⟩, a, rfl, hk⟩ := h
      split at hk
      · rename_i ti hti
        refine gd_mk hk fun w2 => ?_
        simp [execOp, ho, hx, hi, Instr.indexAt, asIntOf, run_under hu, h0, h1, run_size hti]
      · exact hk.elim
    · exact h.elim
  · rename_i n e hu
    split at h
    · rename_i a k m hx hi
      obtain ⟨⟨h0, h1⟩, hk⟩ := h
      split at hk
      · rename_i ti hti
        refine gd_mk hk fun w2 => ?_
        simp [execOp, ho, hx, hi, Instr.indexAt, asIntOf, run_under hu, h0, h1, run_size hti, Instr.sureAddr]
      · exact hk.elim
    · exact h.elim
  · exact h.elim

theorem good_slice {x : Operand} {lo hi mx : Option Operand} (ho : o.op = .slice t x lo hi mx) (h : wSlice P t (ρ x) (lo.map ρ) (hi.map ρ) (mx.map ρ) w K) : Gd P q o ρ w K := by
  unfold wSlice at h
  cases mx with
  | some m => simp at h
  | none =>
  simp only [Option.map_none] at h
  split at h
  · rename_i hu
    split at h
    · rename_i s hx
      cases lo with
      | none =>
        cases hi with
        | none =>
          refine gd_mk h fun w2 => ?_
          simp [execOp, ho, hx, Instr.sliceAt, Instr.slice, Instr.sliceBounds, run_under hu]
        | some b =>
          simp only [Option.map_none, Option.map_some] at h
          generalize hb : ρ b = v at h
          cases v <;> first | exact h.elim | skip
          obtain ⟨⟨h0, h1⟩, hk⟩ := h
          refine gd_mk hk fun w2 => ?_
          simp [execOp, ho, hx, Instr.sliceAt, Instr.slice, Instr.sliceBounds, Instr.sliceBound, asIntOf, run_under hu, hb, h0, h1]
      | some a =>
        cases hi with
        | none =>
          simp only [Option.map_none, Option.map_some] at h
          generalize ha : ρ a = v at h
          cases v <;> first | exact h.elim | skip
          obtain ⟨⟨h0, h1⟩, hk⟩ := h
          refine gd_mk hk fun w2 => ?_
          simp [execOp, ho, hx, Instr.sliceAt, Instr.slice, Instr.sliceBounds, Instr.sliceBound, asIntOf, run_under hu, ha, h0, h1]
        | some b =>
          simp only [Option.map_some] at h
          generalize ha : ρ a = v at h
          generalize hb : ρ b = u at h
          cases v <;> first | exact h.elim | skip
          cases u <;> first | exact h.elim | skip
          rename_i k1 l k2 r
          obtain ⟨⟨h0, h1, h2⟩, hk⟩ := h
          have h3 : 0 ≤ r := by omega
          have h4 : l ≤ ((r.toNat : Nat) : Int) := by omega
          have h5 : ¬ max r 0 < l := by omega
          refine gd_mk hk fun w2 => ?_
          simp [execOp, ho, hx, Instr.sliceAt, Instr.slice, Instr.sliceBounds, Instr.sliceBound, asIntOf, run_under hu, ha, hb, h0, h2, h3, h5]
    · exact h.elim
  · rename_i e hu
    split at h
    · rename_i a len cap ti hx hti
      cases lo with
      | none =>
        cases hi with
        | none =>
          refine gd_mk h fun w2 => ?_
          simp [execOp, ho, hx, Instr.sliceAt, Instr.slice, Instr.sliceBounds, run_under hu, run_size hti, subA]
        | some b =>
          simp only [Option.map_none, Option.map_some] at h
          generalize hb : ρ b = v at h
          cases v <;> first | exact h.elim | skip
          obtain ⟨⟨h0, h1⟩, hk⟩ := h
          refine gd_mk hk fun w2 => ?_
          simp [execOp, ho, hx, Instr.sliceAt, Instr.slice, Instr.sliceBounds, Instr.sliceBound, asIntOf, run_under hu, run_size hti, subA, hb, h0, h1]
      | some a0 =>
        cases hi with
        | none =>
          simp only [Option.map_none, Option.map_some] at h
          generalize ha : ρ a0 = v at h
          cases v <;> first | exact h.elim | skip
          obtain ⟨⟨h0, h1⟩, hk⟩ := h
          refine gd_mk hk fun w2 => ?_
          simp [execOp, ho, hx, Instr.sliceAt, Instr.slice, Instr.sliceBounds, Instr.sliceBound, asIntOf, run_under hu, run_size hti, subA, ha, h0, h1]
        | some b =>
          simp only [Option.map_some] at h
          generalize ha : ρ a0 = v at h
          generalize hb : ρ b = u at h
          cases v <;> first | exact h.elim | skip
          cases u <;> first | exact h.elim | skip
          rename_i k1 l k2 r
          obtain ⟨⟨h0, h1, h2⟩, hk⟩ := h
          have h3 : 0 ≤ r := by omega
          have h4 : l ≤ ((r.toNat : Nat) : Int) := by omega
          have h5 : ¬ max r 0 < l := by omega
          refine gd_mk hk fun w2 => ?_
          simp [execOp, ho, hx, Instr.sliceAt, Instr.slice, Instr.sliceBounds, Instr.sliceBound, asIntOf, run_under hu, run_size hti, subA, ha, hb, h0, h2, h3, h5]
    · exact h.elim
  · rename_i n e hu
    split at h
    · rename_i a ti hx hti
      cases lo with
      | none =>
        cases hi with
        | none =>
          refine gd_mk h fun w2 => ?_
          simp [execOp, ho, hx, Instr.sliceAt, Instr.sureAddr, Instr.sliceBounds, run_under hu, run_size hti, subA]
          try (split <;> rfl)
        | some b =>
          simp only [Option.map_none, Option.map_some] at h
          generalize hb : ρ b = v at h
          cases v <;> first | exact h.elim | skip
          obtain ⟨⟨h0, h1⟩, hk⟩ := h
          refine gd_mk hk fun w2 => ?_
          simp [execOp, ho, hx, Instr.sliceAt, Instr.sureAddr, Instr.sliceBounds, Instr.sliceBound, asIntOf, run_under hu, run_size hti, subA, hb, h0, h1]
          try (split <;> rfl)
      | some a0 =>
        cases hi with
        | none =>
          simp only [Option.map_none, Option.map_some] at h
          generalize ha : ρ a0 = v at h
          cases v <;> first | exact h.elim | skip
          obtain ⟨⟨h0, h1⟩, hk⟩ := h
          refine gd_mk hk fun w2 => ?_
          simp [execOp, ho, hx, Instr.sliceAt, Instr.sureAddr, Instr.sliceBounds, Instr.sliceBound, asIntOf, run_under hu, run_size hti, subA, ha, h0, h1]
          try (split <;> rfl)
        | some b =>
          simp only [Option.map_some] at h
          generalize ha : ρ a0 = v at h
          generalize hb : ρ b = u at h
          cases v <;> first | exact h.elim | skip
          cases u <;> first | exact h.elim | skip
          rename_i k1 l k2 r
          obtain ⟨⟨h0, h1, h2⟩, hk⟩ := h
          have h3 : 0 ≤ r := by omega
          have h4 : l ≤ ((r.toNat : Nat) : Int) := by omega
          have h5 : ¬ max r 0 < l := by omega
          refine gd_mk hk fun w2 => ?_
          simp [execOp, ho, hx, Instr.sliceAt, Instr.sureAddr, Instr.sliceBounds, Instr.sliceBound, asIntOf, run_under hu, run_size hti, subA, ha, hb, h0, h2, h3]
          rw [if_pos (by omega)]; congr 3; split <;> rfl
    · exact h.elim
  · exact h.elim
theorem hnp (hρ : ∀ v, ρ (.const v) = v) (y : Operand) (h : isNilP y = true) : ρ y = .pointer none := by
  unfold isNilP at h; split at h
  · exact hρ _
  · cases h
theorem hns (hρ : ∀ v, ρ (.const v) = v) (y : Operand) (h : isNilS y = true) : ρ y = .slice none 0 0 := by
  unfold isNilS at h; split at h
  · exact hρ _
  · cases h
theorem run_eqIn_slice (d : Nat) (t e : TypeId) (a : Option Addr) (l c : Nat) (h : P.underlying t = some (.slice e)) : (Op.equalIn (d + 1) t (.slice a l c) (.slice none 0 0)).run P w = Result.ok a.isNone w := by
  cases a <;> simp [Op.equalIn, run_underlying h]
theorem run_eq_slice (t e : TypeId) (a : Option Addr) (l c : Nat) (h : P.underlying t = some (.slice e)) : (Op.equal t (.slice a l c) (.slice none 0 0)).run P w = Result.ok a.isNone w := run_eqIn_slice 9999 t e a l c h
theorem eqGuard_ptr (op : BinOp) (x y : Operand) (p : Option Addr) (v : Value) : eqGuard op t x y (.pointer p) v = pure () := by cases op <;> rfl
theorem eqGuard_sl (op : BinOp) (x y : Operand) (p : Option Addr) (n m : Nat) (v : Value) : eqGuard op t x y (.slice p n m) v = pure () := by cases op <;> rfl
theorem leafEq_run {d : Nat} {t : TypeId} {v u : Value} {b : Bool} (ht : leafT (P.underlying t) v = true) (h : leafEq v u = some b) (w : World) : (Op.equalIn (d + 1) t v u).run P w = .ok b w := by
  cases v <;> cases u <;> simp only [leafEq, reduceCtorEq] at h
  · rename_i x y
    cases hu : P.underlying t with
    | none => rw [hu] at ht; simp [leafT] at ht
    | some T =>
      rw [hu] at ht
      cases T <;> simp [leafT] at ht
      cases h
      exact run_equalIn_bool' w d t x y hu
  · rename_i k x k' y
    cases hs : sameK k k' <;> simp only [hs, reduceCtorEq, Option.some.injEq] at h
    have := sameK_spec hs; subst this
    cases hu : P.underlying t with
    | none => rw [hu] at ht; simp [leafT] at ht
    | some T =>
      rw [hu] at ht
      cases T <;> simp [leafT] at ht
      subst h
      exact run_equalIn_int w d t _ _ x y hu
  · rename_i x y
    cases hu : P.underlying t with
    | none => rw [hu] at ht; simp [leafT] at ht
    | some T =>
      rw [hu] at ht
      cases T <;> simp [leafT] at ht
      cases h
      exact run_equalIn_string w d t x y hu
theorem leafT_agg {t : TypeId} {v : Value} (ht : leafT (P.underlying t) v = true) (w : World) : (isAgg t).run P w = .ok false w := by
  cases hu : P.underlying t with
  | none => rw [hu] at ht; simp [leafT] at ht
  | some T =>
    rw [hu] at ht
    cases T <;> simp [leafT] at ht <;> simp [isAgg, run_underlying hu]
theorem run_part {t : TypeId} {cs : Array Value} {i : Nat} {v : Value} (h : cs[i]? = some v) (ht : (isAgg t).run P w = .ok false w) : (part t cs i).run P w = .ok v w := by
  simp [part, ht, h]
theorem run_fields {d : Nat} {xs ys : Array Value} (w : World) : ∀ (fs : List Field) (i : Nat) (vs us : List Value) (b : Bool), xs.toList.drop i = vs → ys.toList.drop i = us → fieldsOK P i fs vs = true → allEq vs us = some b →
    (Op.eqFields (d + 1) xs ys fs).run P w = .ok b w
  | [], i, [], [], b, _, _, _, h => by simp only [allEq, Option.some.injEq] at h; subst h; rfl
  | [], i, [], u :: us, b, _, _, _, h => by simp [allEq] at h
  | [], i, v :: vs, us, b, _, _, hf, _ => by simp [fieldsOK] at hf
  | f :: fs, i, [], us, b, _, _, hf, _ => by simp [fieldsOK] at hf
  | f :: fs, i, v :: vs, [], b, _, _, _, h => by cases vs <;> simp [allEq] at h
  | f :: fs, i, v :: vs, u :: us, b, hv, hu, hf, h => by
    simp only [fieldsOK] at hf
    cases h1 : (f.name != "_") <;> simp only [h1, reduceCtorEq] at hf
    cases h2 : Nat.beq f.offset i <;> simp only [h2, reduceCtorEq] at hf
    cases h3 : leafT (P.underlying f.type) v <;> simp only [h3, reduceCtorEq] at hf
    have h2 := Nat.eq_of_beq_eq_true h2
    have gx : xs[f.offset]? = some v := by
      rw [h2]
      have := congrArg (·[0]?) hv
      simpa using this
    have gy : ys[f.offset]? = some u := by
      rw [h2]
      have := congrArg (·[0]?) hu
      simpa using this
    have hname : f.name ≠ "_" := by simpa using h1
    have key : ∀ a b', leafEq v u = some a → (∀ w, (Op.eqFields (d + 1) xs ys fs).run P w = .ok b' w) → (Op.eqFields (d + 1) xs ys (f :: fs)).run P w = .ok (a && b') w := by
      intro a b' ha hr
      simp only [Op.eqFields, if_pos hname, Sem.run_bind, run_part gx (leafT_agg h3 w), Result.andThen_ok, run_part (t := f.type) gy (leafT_agg h3 w), leafEq_run (d := d) h3 ha w]
      cases a
      · simp
      · simp [hr]
    have hdx : xs.toList.drop (i + 1) = vs := by rw [← List.tail_drop, hv]; rfl
    have hdy : ys.toList.drop (i + 1) = us := by rw [← List.tail_drop, hu]; rfl
    cases vs with
    | nil =>
      cases us with
      | nil =>
        simp only [allEq] at h
        have := key b true h fun w => run_fields w fs (i + 1) [] [] true hdx hdy hf rfl
        simpa using this
      | cons _ _ => 
        simp only [allEq] at h
        cases hl : leafEq v u <;> simp [hl] at h
    | cons v2 vs =>
      cases us with
      | nil =>
        simp only [allEq] at h
        cases hl : leafEq v u <;> simp only [hl, reduceCtorEq] at h
      | cons u2 us =>
        simp only [allEq] at h
        cases hl : leafEq v u <;> simp only [hl, reduceCtorEq] at h
        cases ha : allEq (v2 :: vs) (u2 :: us) <;> simp only [ha, reduceCtorEq, Option.some.injEq] at h
        rename_i a b'
        subst h
        exact key a b' hl fun w => run_fields w fs (i + 1) _ _ b' hdx hdy hf ha
theorem run_flat {t : TypeId} {xs ys : Array Value} {b : Bool} (h : flatB P t xs.toList = true) (ha : allEq xs.toList ys.toList = some b) (w : World) :
    (Op.equalIn 10000 t (.agg xs) (.agg ys)).run P w = .ok b w ∧ P.eqGuardType P.depth t = false := by
  unfold flatB at h
  split at h
  · rename_i fs hu
    cases h1 : P.stoodInHeld t <;> simp only [h1, reduceCtorEq] at h
    cases h2 : P.eqGuardType P.depth t <;> simp only [h2, reduceCtorEq] at h
    have hf : P.fieldsOf t = fs := by simp [Program.fieldsOf, hu]
    refine ⟨?_, rfl⟩
    rw [show (10000 : Nat) = 9999 + 1 from rfl, run_equalIn_agg w 9999 t xs ys (by rw [hf]; exact hu) h1, hf]
    exact run_fields (d := 9998) w _ 0 _ _ b rfl rfl h ha
  · cases h
theorem eqGuard_agg (w : World) {op : BinOp} {x y : Operand} {xs ys : Array Value} (h : P.eqGuardType P.depth t = false) : (eqGuard op t x y (.agg xs) (.agg ys)).run P w = .ok () w := run_eqGuard_agg w op t x y xs ys h
theorem good_agg {neg : Bool} {op : BinOp} {x y : Operand} {yt : TypeId} {xs : Array Value} (ho : o.op = .binOp op t x y yt) (hop : op = if neg then .neq else .eql) (hx : ρ x = .agg xs) (h : wAggEq P neg t xs (ρ y) w K) : Gd P q o ρ w K := by
  unfold wAggEq at h
  split at h
  · rename_i ys hy
    cases h1 : flatB P t xs.toList <;> simp only [h1] at h
    cases h2 : allEq xs.toList ys.toList <;> simp only [h2] at h
    rename_i b
    cases neg
    · simp only [Bool.false_eq_true, if_false] at hop
      subst hop
      refine gd_mk h fun w2 => ?_
      obtain ⟨h3, h4⟩ := run_flat h1 h2 w2
      simp [execOp, ho, hx, hy, eqGuard_agg w2 h4, run_eql_struct, h3, Result.andThen]
    · simp only [if_true] at hop
      subst hop
      refine gd_mk h fun w2 => ?_
      obtain ⟨h3, h4⟩ := run_flat h1 h2 w2
      simp [execOp, ho, hx, hy, eqGuard_agg w2 h4, run_neq_struct, h3, Result.andThen]
  · exact h.elim
theorem good_bin {op : BinOp} {x y : Operand} {yt : TypeId} (hρ : ∀ v, ρ (.const v) = v) (ho : o.op = .binOp op t x y yt) (h : wBin P ty q o ρ op t y (ρ x) (ρ y) w K) : Gd P q o ρ w K := by
  unfold wBin at h
  cases op <;> simp only at h <;> first | exact gd_of_run1 h | skip
  all_goals (revert h; generalize hx : ρ x = u; generalize hy : ρ y = v; intro h)
  case add =>
    cases u <;> first | exact gd_of_run1 h | skip
    cases v <;> first | exact h.elim | skip
    rename_i s r
    obtain ⟨h1, hk⟩ := h
    refine gd_mk hk fun w2 => ?_
    have h2 : ¬ ((s.size + r.size : Nat) : Int) > IntKind.i64.max := by rw [IntKind.max_i64]; omega
    simp only [execOp, ho, hx, hy, binOp, Op.stringOp, if_neg h2]
    simp [eqGuard]
  case quo =>
    cases u <;> first | exact h.elim | skip
    cases v <;> first | exact h.elim | skip
    rename_i k a k' b
    cases hs : sameK k k' <;> simp only [hs] at h
    have := sameK_spec hs; subst this
    obtain ⟨h1, hk⟩ := h
    refine gd_mk hk fun w2 => ?_
    simp [execOp, ho, hx, hy, binOp, Op.intDiv, h1, eqGuard]
  case rem =>
    cases u <;> first | exact h.elim | skip
    cases v <;> first | exact h.elim | skip
    rename_i k a k' b
    cases hs : sameK k k' <;> simp only [hs] at h
    have := sameK_spec hs; subst this
    obtain ⟨h1, hk⟩ := h
    refine gd_mk hk fun w2 => ?_
    simp [execOp, ho, hx, hy, binOp, Op.intDiv, h1, eqGuard]
  case shl =>
    cases u <;> first | exact h.elim | skip
    cases v <;> first | exact h.elim | skip
    obtain ⟨h1, hk⟩ := h
    have h2 := Int.not_lt.2 h1
    refine gd_mk hk fun w2 => ?_
    simp [execOp, ho, hx, hy, binOp, Op.shift, h2, eqGuard]
  case shr =>
    cases u <;> first | exact h.elim | skip
    cases v <;> first | exact h.elim | skip
    obtain ⟨h1, hk⟩ := h
    have h2 := Int.not_lt.2 h1
    refine gd_mk hk fun w2 => ?_
    simp [execOp, ho, hx, hy, binOp, Op.shift, h2, eqGuard]
  case eql =>
    cases u <;> simp only at h <;> first | exact gd_of_run1 h | skip
    rotate_left 2
    · exact good_agg ho rfl hx (hy ▸ h)
    · rename_i p
      cases hn : isNilP y <;> simp only [hn] at h
      · exact gd_of_runS (fun w v' w' hr => by simp [execOp, ho, hx, hy, eqGuard_ptr, hr]) h
      · split at h
        · rename_i e hu
          have hv : v = .pointer none := by
            rw [← hy]; exact hnp hρ _ hn
          subst hv
          refine gd_mk h fun w2 => ?_
          simp [execOp, ho, hx, hy, eqGuard_ptr, run_eql_pointer_nil (P := P) w2 t p (by rw [hu]; simp [Program.pointee, hu])]
        · exact h.elim
    · rename_i a n c
      cases hn : isNilS y <;> simp only [hn] at h
      split at h
      · rename_i e hu
        have hv : v = .slice none 0 0 := by
          rw [← hy]; exact hns hρ _ hn
        subst hv
        refine gd_mk h fun w2 => ?_
        simp [execOp, ho, hx, hy, eqGuard_sl, binOp, run_eq_slice t e a n c hu]
      · exact h.elim
  case neq =>
    cases u <;> simp only at h <;> first | exact gd_of_run1 h | skip
    rotate_left 2
    · exact good_agg ho rfl hx (hy ▸ h)
    · rename_i p
      cases hn : isNilP y <;> simp only [hn] at h
      · exact gd_of_runS (fun w v' w' hr => by simp [execOp, ho, hx, hy, eqGuard_ptr, hr]) h
      · split at h
        · rename_i e hu
          have hv : v = .pointer none := by
            rw [← hy]; exact hnp hρ _ hn
          subst hv
          refine gd_mk h fun w2 => ?_
          simp [execOp, ho, hx, hy, eqGuard_ptr, run_neq_pointer_nil (P := P) w2 t p (by rw [hu]; simp [Program.pointee, hu])]
        · exact h.elim
    · rename_i a n c
      cases hn : isNilS y <;> simp only [hn] at h
      split at h
      · rename_i e hu
        have hv : v = .slice none 0 0 := by
          rw [← hy]; exact hns hρ _ hn
        subst hv
        refine gd_mk h fun w2 => ?_
        simp [execOp, ho, hx, hy, eqGuard_sl, binOp, run_eq_slice t e a n c hu]
      · exact h.elim
theorem good_b {c : Call} {b : Builtin} (ho : o.op = .call c) (hb : c.callee = .builtin b) (h : wB P ty q o ρ b c w K) : Gd P q o ρ w K := by
  unfold wB at h
  split at h
  · rename_i s hs
    refine gd_of_runS (fun w v w' hr => ?_) h
    simp only [execOp, ho, resolve, hb, Sem.run_bind, Sem.run_pure, Result.andThen_ok, invoke]
    cases b <;> simp only [bSem, Option.some.injEq, reduceCtorEq] at hs <;> subst hs <;> simp [builtin, hr]
  · exact h.elim
theorem good_conv {s d : TypeId} {x : Operand} (ho : o.op = .convert s d x) (hs : (P.underlying s).isSome = true) (h : wConv P ty q o s d (ρ x) w K) : Gd P q o ρ w K := by
  unfold wConv at h
  split at h
  · rename_i k n hx
    split at h
    · rename_i kd hd
      obtain ⟨ds, hs'⟩ := Option.isSome_iff_exists.1 hs
      refine gd_mk h fun w2 => ?_
      simp [execOp, ho, hx, convert, run_under hs', run_under hd, Conv.intToInt]
    · exact gd_of_runS (fun w v w' hr => by simp [execOp, ho, hr]) h
  · exact gd_of_runS (fun w v w' hr => by simp [execOp, ho, hr]) h
theorem good_call {c : Call} (ho : o.op = .call c) (h : wCall P ty q o ρ c w K) : Gd P q o ρ w K := by
  unfold wCall at h
  split at h
  · rename_i b hb
    have len1 : ∀ x t, c.args.toList = [x] → c.argTypes.toList = [t] → c.args = #[x] ∧ c.argTypes = #[t] := by
      intro x t h1 h2
      exact ⟨by rw [← Array.toArray_toList (xs := c.args), h1], by rw [← Array.toArray_toList (xs := c.argTypes), h2]⟩
    have lenS : ∀ (x : Operand) (s : ByteArray), c.args.toList = [x] → ρ x = .string s → (match c.argTypes.toList with
          | [t] => match P.underlying t with
            | some .string => K (.int .i64 s.size) false w
            | _ => False
          | _ => False) → b = .len → Gd P q o ρ w K := by
      intro x s hx hs g hl
      split at g
      · rename_i t ht
        split at g
        · rename_i hu
          obtain ⟨e1, e2⟩ := len1 x t hx ht
          obtain ⟨callee, args, argTypes⟩ := c
          simp only at hb e1 e2
          subst hb e1 e2 hl
          refine gd_mk g fun w2 => ?_
          simp [execOp, ho, resolve, invoke, builtin, Builtin.len_, hs, run_under hu, goInt]
        · exact g.elim
      · exact g.elim
    have lenL : ∀ (x : Operand) (p : Option Addr) (n m : Nat), c.args.toList = [x] → ρ x = .slice p n m → (match c.argTypes.toList with
          | [t] => match P.underlying t with
            | some (.slice _) => K (.int .i64 n) false w
            | _ => False
          | _ => False) → b = .len → Gd P q o ρ w K := by
      intro x p n m hx hs g hl
      split at g
      · rename_i t ht
        split at g
        · rename_i e hu
          obtain ⟨e1, e2⟩ := len1 x t hx ht
          obtain ⟨callee, args, argTypes⟩ := c
          simp only at hb e1 e2
          subst hb e1 e2 hl
          refine gd_mk g fun w2 => ?_
          simp [execOp, ho, resolve, invoke, builtin, Builtin.len_, hs, run_under hu, goInt]
        · exact g.elim
      · exact g.elim
    split at h
    · split at h
      · rename_i x hx
        split at h
        · rename_i s hs; exact lenS x s hx hs h rfl
        · rename_i p n m hs; exact lenL x p n m hx hs h rfl
        · exact good_b ho hb h
      · exact h.elim
    · exact gd_of_run1 h
    · exact gd_of_run1 h
    · exact good_b ho hb h
  · exact gd_of_run1 h
theorem good_map {m k v : Operand} {t : TypeId} (ho : o.op = .mapUpdate t m k v ∨ o.op = .insert t m k v) (h : ∃ w', (Instr.mapUpdate t (ρ m) (ρ k) (ρ v)).run P w = .ok () w' ∧ K undef false w') : Gd P .full o ρ w K := by
  obtain ⟨w', hr, hk⟩ := h
  refine good_of_skip (w' := w') ?_ hk
  rcases ho with ho | ho <;> simp [execOp, ho, hr]
/-- EVERY OPERATION THAT IS SERVED. -/
theorem good_op1 {φ : Operand → Bool} (hρ : ∀ v, ρ (.const v) = v) (h : wOp1 P ty q o ρ φ w K) : Gd P q o ρ w K := by
  unfold wOp1 at h
  split at h
  case h_1 => rename_i x ho; exact gd_mk h fun w2 => by simp [execOp, ho]
  case h_2 => rename_i x ho; exact gd_mk h fun w2 => by simp [execOp, ho]
  case h_3 => rename_i ho; exact good_load ho h
  case h_4 => rename_i ho; exact good_store ho h
  case h_5 => rename_i ho; exact good_nil ho h
  case h_6 => rename_i ho; exact good_index ho h
  case h_7 => rename_i ho; exact good_indexAddr ho h
  case h_8 => rename_i ho; exact good_slice ho h
  case h_9 => rename_i ho; exact good_bin hρ ho h
  case h_10 =>
    rename_i ho
    split at h
    · rename_i hs; exact good_conv ho (by rw [hs]; rfl) h
    · exact h.elim
  case h_11 => rename_i ho; exact good_call ho h
  all_goals first | exact gd_of_run1 h | exact gd_of_runA h | exact h.elim | skip
  all_goals first | (rename_i ho; exact gd_of_runS (fun w v w' hr => by simp [execOp, ho, hr]) h) | (rename_i ho; exact gd_of_next (fun w v w' hr => by simp [execOp, ho, hr]) h) | (rename_i ho; exact gd_of_entry (fun w v w' hr => by simp [execOp, ho, hr]) h) | skip
  all_goals (rename_i ho; cases q <;> first | exact good_map (.inl ho) h | exact good_map (.inr ho) h | exact h.elim)
end
end Vc

/- Whole bodies as formulas, and that the formula is enough for the model's own 'Calls'. No condition: for all programs. -/
set_option linter.unusedVariables false
namespace Vc
open Go
variable {D : List Deferred}

def dstAt : List Oper → Nat → Option Tmp
  | [], _ => none
  | o :: _, 0 => o.dst
  | _ :: r, j + 1 => dstAt r j
theorem dstAt_spec : ∀ (l : List Oper) (j : Nat), dstAt l j = (l[j]?).bind (·.dst)
  | [], j => by simp [dstAt]
  | o :: r, 0 => by simp [dstAt]
  | o :: r, j + 1 => by simp [dstAt, dstAt_spec r j]

/-- What e holds outside these slots e' holds too. -/
def Ext (wr : List Nat) (e e' : Env) : Prop := ∀ t v, memN t wr = false → get e t = some v → ∃ b, get e' t = some (v.1, b)
theorem memN_app {t : Nat} : ∀ {l r : List Nat}, memN t (l ++ r) = false → memN t l = false ∧ memN t r = false
  | [], r, h => ⟨rfl, h⟩
  | s :: l, r, h => by
    simp only [List.cons_append, memN] at h ⊢
    cases hb : Nat.beq s t with
    | true => simp [hb] at h
    | false => simp only [hb] at h; exact memN_app h
theorem Ext.refl (wr : List Nat) (e : Env) : Ext wr e e := fun _ v _ h => ⟨v.2, h⟩
theorem Ext.trans {l r : List Nat} {e e1 e2 : Env} (h : Ext l e e1) (h' : Ext r e1 e2) : Ext (l ++ r) e e2 := fun t v hm hg => by
  obtain ⟨m1, m2⟩ := memN_app hm
  obtain ⟨b, hb⟩ := h t v m1 hg
  exact h' t (v.1, b) m2 hb
theorem Ext.trans' {wr : List Nat} {e e1 e2 : Env} (h : Ext wr e e1) (h' : Ext wr e1 e2) : Ext wr e e2 := fun t v hm hg => by
  obtain ⟨b, hb⟩ := h t v hm hg
  exact h' t (v.1, b) hm hb
theorem Ext.mono {l r : List Nat} {e e' : Env} (h : Ext l e e') (hlr : ∀ t, memN t r = false → memN t l = false) : Ext r e e' := fun t v hm hg => h t v (hlr t hm) hg
theorem Ext.put (e : Env) (d : Option Tmp) (v : Val) : Ext d.toList e (put e d v) := fun t u hm hg => by
  cases d with
  | none => exact ⟨u.2, hg⟩
  | some d =>
    refine ⟨u.2, ?_⟩
    simp only [Vc.put, get_cons]
    have : d ≠ t := by rintro rfl; simp [memN] at hm
    rw [if_neg this]; exact hg
theorem Ext.lay {e : Env} {t : Nat} {v : Val} (b : Bool) (ht : get e t = some v) (wr : List Nat) : Ext wr e ((t, (v.1, b)) :: e) := fun s u _ hg => by
  rw [get_cons]
  by_cases hst : t = s
  · subst hst
    rw [ht] at hg
    cases hg
    exact ⟨b, by simp⟩
  · exact ⟨u.2, by rw [if_neg hst]; exact hg⟩

section
variable (P : Program) (ty : Nat → Sh) (N : Nat)

def wStep (q : Md) (o : Oper) (e : Env) (w : World) (K : Env → World → Prop) : Prop :=
  match o.op with
  | .pick c a b => match hasAll e [c, a, b] with
    | false => False
    | true => match fits N o.dst with
      | false => False
      | true => match fl e c with
        | true => match vl e c with
          | .bool true => K (put e o.dst (vl e a, fl e a)) w
          | .bool false => K (put e o.dst (vl e b, fl e b)) w
          | _ => False
        | false => match vl e c with
          | .bool x => (x = true → K (put e o.dst (vl e a, fl e a)) w) ∧ (x = false → K (put e o.dst (vl e b, fl e b)) w)
          | _ => False
  | _ => match opnds o.op with
    | none => False
    | some l => match hasAll e l with
      | false => False
      | true => match fits N o.dst with
        | false => False
        | true => wOp1 P ty q o (vl e) (fl e) w (fun v b w' => K (put e o.dst (v, b)) w')

/-- Under its guard. -/
def wGuard (q : Md) (ops : List Oper) (o : Oper) (e : Env) (w : World) (K : Env → World → Prop) : Prop :=
  match o.guard with
  | none => wStep P ty N q o e w K
  | some (j, want) => match fits N o.dst with
    | false => False
    | true => match dstAt ops j with
      | none => False
      | some d => match get e d with
        | none => False
        | some (v, true) => match v with
          | .bool true => match want with
            | true => wStep P ty N q o e w K
            | false => K (put e o.dst (undef, false)) w
          | .bool false => match want with
            | true => K (put e o.dst (undef, false)) w
            | false => wStep P ty N q o e w K
          | _ => False
        | some (v, false) => match v with
          | .bool x => (x = true → match want with
              | true => wStep P ty N q o ((d, (.bool true, true)) :: e) w K
              | false => K (put ((d, (.bool true, true)) :: e) o.dst (undef, false)) w) ∧
            (x = false → match want with
              | true => K (put ((d, (.bool false, true)) :: e) o.dst (undef, false)) w
              | false => wStep P ty N q o ((d, (.bool false, true)) :: e) w K)
          | .tuple _ => K (put e o.dst (undef, false)) w
          | _ => False

def wOps (q : Md) (ops : List Oper) : List Oper → Env → World → (Env → World → Prop) → Prop
  | [], e, w, K => K e w
  | o :: r, e, w, K => wGuard P ty N q ops o e w (fun e' w' => wOps q ops r e' w' K)
end

section
variable {P : Program} {ty : Nat → Sh} {N : Nat}

theorem vl_const (e : Env) (v : Value) : vl e (.const v) = v := rfl

theorem wp_of_good {o : Oper} {e : Env} {a : Act} {w : World} {K : Env → World → Prop} {next : Act → World → Prop} {Q : Exit → Act → World → Prop}
    (hs : Sub D N e a) {l : List Operand} (ho : opnds o.op = some l) (hl : hasAll e l = true) (hf : fits N o.dst = true)
    (h : Good P o (vl e) w (fun v b w' => K (put e o.dst (v, b)) w')) (hk : ∀ v w' a', K (put e o.dst v) w' → Sub D N (put e o.dst v) a' → next a' w') : o.wp P a w next Q := by
  unfold Oper.wp
  rw [hs.exec ho hl]
  unfold Good at h
  cases hr : (execOp (vl e) o).run P w with
  | halt x w' => simp [hr] at h
  | ok n w' =>
    simp only [hr] at h
    cases n <;> simp only at h
    case value v => obtain ⟨b, h⟩ := h; exact hk _ _ _ h (hs.put hf)
    case skip => obtain ⟨b, h⟩ := h; exact hk _ _ _ h (hs.put (v := (undef, b)) hf)
    case enter f args =>
      exact h.mono fun e' w'' hh => by
        obtain ⟨v, rfl, b, hk'⟩ := hh
        exact hk _ _ _ hk' (hs.put (v := (v, b)) hf)

theorem wStep_sound {o : Oper} {e : Env} {a : Act} {w : World} {K : Env → World → Prop} {next : Act → World → Prop} {Q : Exit → Act → World → Prop}
    (h : wStep P ty N .full o e w K) (hs : Sub D N e a) (hk : ∀ v w' a', K (put e o.dst v) w' → Sub D N (put e o.dst v) a' → next a' w') : o.wp P a w next Q := by
  unfold wStep at h
  split at h
  · rename_i c x y ho
    split at h
    · exact h.elim
    rename_i hh
    split at h
    · exact h.elim
    rename_i hf
    have hx := hs.vl (hasAll_spec hh x (by simp))
    have hy := hs.vl (hasAll_spec hh y (by simp))
    have hc := hs.vl (hasAll_spec hh c (by simp))
    have key : ∀ t : Bool, vl e c = .bool t → K (put e o.dst (if t then vl e x else vl e y, if t then fl e x else fl e y)) w → o.wp P a w next Q := by
      intro t ht hK
      have : (execOp a.eval o).run P w = .ok (.value (if t then vl e x else vl e y)) w := by
        simp only [execOp, ho, hc, hx, hy, ht]
        cases t <;> simp [asBool]
      unfold Oper.wp
      rw [this]
      exact hk _ _ _ hK (hs.put (v := (if t then vl e x else vl e y, if t then fl e x else fl e y)) hf)
    split at h
    · split at h
      · rename_i ht; exact key true ht h
      · rename_i ht; exact key false ht h
      · exact h.elim
    · split at h
      · rename_i t ht
        cases t
        · exact key false ht (h.2 rfl)
        · exact key true ht (h.1 rfl)
      · exact h.elim
  · split at h
    · exact h.elim
    rename_i l ho
    split at h
    · exact h.elim
    rename_i hl
    split at h
    · exact h.elim
    rename_i hf
    exact wp_of_good hs ho hl hf (good_op1 (q := .full) (vl_const e) h) hk

theorem yielded_of {ops : List Oper} {e : Env} {a : Act} (hs : Sub D N e a) {j d : Nat} (hd : dstAt ops j = some d) {v : Val} (hv : get e d = some v) :
    yielded ops.toArray a.tmps j = match v.1 with | .bool b => some b | _ => none := by
  have h1 := hs.at_ d v hv
  rw [dstAt_spec] at hd
  unfold yielded
  simp only [List.getElem?_toArray, hd, Option.bind_some, h1]
  cases v.1 <;> rfl

/-! ### Regions that draw their order -/
theorem quiet_of_good {o : Oper} {e : Env} {a : Act} {w : World} {K : Env → World → Prop} {next : Act → Prop}
    (hs : Sub D N e a) {l : List Operand} (ho : opnds o.op = some l) (hl : hasAll e l = true) (hf : fits N o.dst = true)
    (h : GoodQ P o (vl e) w (fun v b w' => K (put e o.dst (v, b)) w')) (hk : ∀ v a', K (put e o.dst v) w → Sub D N (put e o.dst v) a' → next a') :
    o.quiet P a (fun w' => ∃ n, w' = w.drewN n) next := by
  have hex := hs.exec ho hl
  rcases h with ⟨v, b, hK, hr⟩ | ⟨f, args, v, b, hK, hr, hc⟩
  · refine ⟨v, fun w' ⟨n, hw'⟩ => ?_, hk _ _ hK (hs.put (v := (v, b)) hf)⟩
    subst hw'
    unfold Oper.quietAt
    rw [hex, hr (w.drewN n) rfl]
    exact ⟨rfl, rfl⟩
  · refine ⟨v, fun w' ⟨n, hw'⟩ => ?_, hk _ _ hK (hs.put (v := (v, b)) hf)⟩
    subst hw'
    unfold Oper.quietAt
    rw [hex, hr (w.drewN n)]
    exact ⟨rfl, hc _ ⟨n, rfl⟩⟩
theorem still_of_good {o : Oper} {e : Env} {a : Act} {w : World} {K : Env → World → Prop} {next : Act → Prop}
    (hs : Sub D N e a) {l : List Operand} (ho : opnds o.op = some l) (hl : hasAll e l = true) (hf : fits N o.dst = true)
    (h : GoodS P o (vl e) w (fun v b w' => K (put e o.dst (v, b)) w')) (hk : ∀ v a', K (put e o.dst v) w → Sub D N (put e o.dst v) a' → next a') :
    o.still P a w next := by
  have hex := hs.exec ho hl
  obtain ⟨v, b, hK, hr⟩ := h
  unfold Oper.still
  rw [hex, hr w rfl]
  exact ⟨rfl, hk _ _ hK (hs.put (v := (v, b)) hf)⟩

/-- The open step, whatever is asked of the operation ('R'). -/
theorem wStep_open {q : Md} {o : Oper} {e : Env} {a : Act} {w : World} {K : Env → World → Prop} {R : Prop}
    (h : wStep P ty N q o e w K) (hs : Sub D N e a)
    (pick : ∀ v b, K (put e o.dst (v, b)) w → fits N o.dst = true → (∀ w2, (execOp a.eval o).run P w2 = .ok (.value v) w2) → R)
    (op : ∀ l, opnds o.op = some l → hasAll e l = true → fits N o.dst = true → Gd P q o (vl e) w (fun v b w' => K (put e o.dst (v, b)) w') → R) : R := by
  unfold wStep at h
  split at h
  · rename_i c x y ho
    split at h
    · exact h.elim
    rename_i hh
    split at h
    · exact h.elim
    rename_i hf
    have hx := hs.vl (hasAll_spec hh x (by simp))
    have hy := hs.vl (hasAll_spec hh y (by simp))
    have hc := hs.vl (hasAll_spec hh c (by simp))
    have key : ∀ t : Bool, vl e c = .bool t → K (put e o.dst (if t then vl e x else vl e y, if t then fl e x else fl e y)) w → R := by
      intro t ht hK
      refine pick _ _ hK hf fun w2 => ?_
      simp only [execOp, ho, hc, hx, hy, ht]
      cases t <;> simp [asBool]
    split at h
    · split at h
      · rename_i ht; exact key true ht h
      · rename_i ht; exact key false ht h
      · exact h.elim
    · split at h
      · rename_i t ht
        cases t
        · exact key false ht (h.2 rfl)
        · exact key true ht (h.1 rfl)
      · exact h.elim
  · split at h
    · exact h.elim
    rename_i l ho
    split at h
    · exact h.elim
    rename_i hl
    split at h
    · exact h.elim
    rename_i hf
    exact op l ho hl hf (good_op1 (vl_const e) h)

theorem wStep_quiet {o : Oper} {e : Env} {a : Act} {w : World} {K : Env → World → Prop} {next : Act → Prop}
    (h : wStep P ty N .quiet o e w K) (hs : Sub D N e a) (hk : ∀ v a', K (put e o.dst v) w → Sub D N (put e o.dst v) a' → next a') : o.quiet P a (fun w' => ∃ n, w' = w.drewN n) next :=
  wStep_open h hs (fun v b hK hf hr => ⟨v, fun w' ⟨n, hw'⟩ => by
      subst hw'
      unfold Oper.quietAt
      rw [hr (w.drewN n)]
      exact ⟨rfl, rfl⟩, hk _ _ hK (hs.put (v := (v, b)) hf)⟩)
    (fun l ho hl hf h => quiet_of_good hs ho hl hf h hk)
theorem wStep_still {o : Oper} {e : Env} {a : Act} {w : World} {K : Env → World → Prop} {next : Act → Prop}
    (h : wStep P ty N .still o e w K) (hs : Sub D N e a) (hk : ∀ v a', K (put e o.dst v) w → Sub D N (put e o.dst v) a' → next a') : o.still P a w next :=
  wStep_open h hs (fun v b hK hf hr => by
      unfold Oper.still
      rw [hr w]
      exact ⟨rfl, hk _ _ hK (hs.put (v := (v, b)) hf)⟩)
    (fun l ho hl hf h => still_of_good hs ho hl hf h hk)

/-- The guard, opened: whatever is asked ('Y': it is carried out; 'Z': it is passed over). -/
theorem wGuard_open {q : Md} {ops : List Oper} {o : Oper} {e : Env} {a : Act} {w : World} {K : Env → World → Prop} {R : Prop}
    (h : wGuard P ty N q ops o e w K) (hs : Sub D N e a)
    (yes : ∀ e', Ext [] e e' → Sub D N e' a → Region.wanted o (yielded ops.toArray a.tmps) = true → wStep P ty N q o e' w K → R)
    (no : ∀ e', Ext [] e e' → Sub D N e' a → fits N o.dst = true → Region.wanted o (yielded ops.toArray a.tmps) = false → K (put e' o.dst (undef, false)) w → R) : R := by
  simp only [wGuard] at h
  split at h
  · rename_i hg
    exact yes e (.refl _ _) hs (by simp [Region.wanted, hg]) h
  · rename_i j want hg
    split at h
    · exact h.elim
    rename_i hf
    split at h
    · exact h.elim
    rename_i d hd
    split at h
    · exact h.elim
    · rename_i v hv
      have hy := yielded_of hs hd hv
      split at h
      · rename_i hvb
        split at h
        · exact yes e (.refl _ _) hs (by simp [Region.wanted, hg, hy]) h
        · exact no e (.refl _ _) hs hf (by simp [Region.wanted, hg, hy]) h
      · rename_i hvb
        split at h
        · exact no e (.refl _ _) hs hf (by simp [Region.wanted, hg, hy]) h
        · exact yes e (.refl _ _) hs (by simp [Region.wanted, hg, hy]) h
      · exact h.elim
    · rename_i v hv
      have hy := yielded_of hs hd hv
      split at h
      · rename_i x
        cases x
        · have hs' := hs.lay true hv
          have h := h.2 rfl
          split at h
          · exact no _ (.lay true hv _) hs' hf (by simp [Region.wanted, hg, hy]) h
          · exact yes _ (.lay true hv _) hs' (by simp [Region.wanted, hg, hy]) h
        · have hs' := hs.lay true hv
          have h := h.1 rfl
          split at h
          · exact yes _ (.lay true hv _) hs' (by simp [Region.wanted, hg, hy]) h
          · exact no _ (.lay true hv _) hs' hf (by simp [Region.wanted, hg, hy]) h
      · exact no e (.refl _ _) hs hf (by simp [Region.wanted, hg, hy]) h
      · exact h.elim

def dsts : List Oper → List Nat
  | [] => []
  | o :: r => match o.dst with
    | some d => d :: dsts r
    | none => dsts r
theorem dsts_app : ∀ (l r : List Oper), dsts (l ++ r) = dsts l ++ dsts r
  | [], r => rfl
  | o :: l, r => by
    simp only [List.cons_append, dsts, dsts_app l r]
    cases o.dst <;> rfl
theorem ext_step {o : Oper} {r : List Oper} {e e1 e2 : Env} {v : Val} (h : Ext [] e e1) (h' : Ext (dsts r) (put e1 o.dst v) e2) : Ext (dsts (o :: r)) e e2 := by
  have h1 := (h.trans (Ext.put e1 o.dst v)).trans h'
  refine h1.mono fun t ht => ?_
  simp only [dsts] at ht
  cases hd : o.dst with
  | none => simpa [hd] using ht
  | some d => simpa [hd] using ht
theorem wOps_sound {ops : List Oper} {Q : Exit → Act → World → Prop} : ∀ (l : List Oper) (e : Env) (a : Act) (w : World) (K : Env → World → Prop),
    wOps P ty N .full ops l e w K → Sub D N e a → (∀ e' w' a', K e' w' → Ext (dsts l) e e' → Sub D N e' a' → Q .normal a' w') → wpList P ops.toArray Q l a w
  | [], e, a, w, K, h, hs, hk => hk _ _ _ h (.refl _ _) hs
  | o :: r, e, a, w, K, h, hs, hk => by
    refine wGuard_open h hs (fun e1 he hs hw h => ?_) (fun e1 he hs hf hw h => ?_)
    · unfold wpList; rw [if_pos hw]
      exact .inl (wStep_sound h hs fun v w' a' hh hs' => wOps_sound r _ a' w' K hh hs' fun e' w' a' h1 h2 h3 => hk _ _ _ h1 (ext_step he h2) h3)
    · unfold wpList; rw [if_neg (by simp [hw])]
      exact wOps_sound r _ _ w K h (hs.put (v := (undef, false)) hf) fun e' w' a' h1 h2 h3 => hk _ _ _ h1 (ext_step he h2) h3
theorem wOps_quiet {ops : List Oper} {Q : Act → Prop} {w : World} : ∀ (l : List Oper) (e : Env) (a : Act) (K : Env → World → Prop),
    wOps P ty N .quiet ops l e w K → Sub D N e a → (∀ e' a', K e' w → Ext (dsts l) e e' → Sub D N e' a' → Q a') → wpQuiet P ops.toArray (fun w' => ∃ n, w' = w.drewN n) Q l a
  | [], e, a, K, h, hs, hk => hk _ _ h (.refl _ _) hs
  | o :: r, e, a, K, h, hs, hk => by
    refine wGuard_open h hs (fun e1 he hs hw h => ?_) (fun e1 he hs hf hw h => ?_)
    · unfold wpQuiet; rw [if_pos hw]
      exact wStep_quiet h hs fun v a' hh hs' => wOps_quiet r _ a' K hh hs' fun e' a' h1 h2 h3 => hk _ _ h1 (ext_step he h2) h3
    · unfold wpQuiet; rw [if_neg (by simp [hw])]
      exact wOps_quiet r _ _ K h (hs.put (v := (undef, false)) hf) fun e' a' h1 h2 h3 => hk _ _ h1 (ext_step he h2) h3
theorem wOps_still {ops : List Oper} {Q : Act → Prop} {w : World} : ∀ (l : List Oper) (e : Env) (a : Act) (K : Env → World → Prop),
    wOps P ty N .still ops l e w K → Sub D N e a → (∀ e' a', K e' w → Ext (dsts l) e e' → Sub D N e' a' → Q a') → wpStill P ops.toArray w Q l a
  | [], e, a, K, h, hs, hk => hk _ _ h (.refl _ _) hs
  | o :: r, e, a, K, h, hs, hk => by
    refine wGuard_open h hs (fun e1 he hs hw h => ?_) (fun e1 he hs hf hw h => ?_)
    · unfold wpStill; rw [if_pos hw]
      exact wStep_still h hs fun v a' hh hs' => wOps_still r _ a' K hh hs' fun e' a' h1 h2 h3 => hk _ _ h1 (ext_step he h2) h3
    · unfold wpStill; rw [if_neg (by simp [hw])]
      exact wOps_still r _ _ K h (hs.put (v := (undef, false)) hf) fun e' a' h1 h2 h3 => hk _ _ h1 (ext_step he h2) h3
end

/-! ### Regions that draw their order, with effects in one order and reads that no effect turns -/
section
variable {P : Program} {ty : Nat → Sh} {N : Nat} {ops : Array Oper} {Q : Exit → Act → World → Prop} {S : World → Prop}

/-- Every other operation is waited for by a later one: so it is the last, whatever the order. -/
def lastB (ops : Array Oper) (j : Nat) : Bool := (List.range ops.size).all fun i => Nat.beq i j || (List.range ops.size).any fun m => Nat.blt i m && Region.waitsFor .any ops m i
theorem last_listed {listed : Array Bool} {n j : Nat} {oj : Oper} (inv : HeadInv .any ops n listed) (hl : lastB ops j = true) (hoj : ops[j]? = some oj)
    (hj : ∀ e ∈ oj.after, Region.binds .any e = true → listed.getD e.on false = true) : ∀ (d i : Nat), ops.size - i = d → i < ops.size → i ≠ j → listed.getD i false = true := by
  intro d
  induction d using Nat.strongRecOn with
  | _ d ih =>
    intro i hd hi hij
    have h1 := List.all_eq_true.1 hl i (List.mem_range.2 hi)
    simp only [Bool.or_eq_true] at h1
    rcases h1 with h1 | h1
    · exact absurd (Nat.eq_of_beq_eq_true h1) hij
    · obtain ⟨m, hm, h2⟩ := List.any_eq_true.1 h1
      simp only [Bool.and_eq_true, Nat.blt_eq] at h2
      have hms := List.mem_range.1 hm
      obtain ⟨om, hom, e, he, hb, hon⟩ := Region.waitsFor_spec h2.2
      by_cases hmj : m = j
      · subst hmj
        have : om = oj := Option.some.inj (hom.symm.trans hoj)
        subst this
        rw [← hon]; exact hj e he hb
      · have hml := ih (ops.size - m) (by omega) m rfl hms hmj
        rw [← hon]; exact inv.closed m om hom hml e he hb

def anyS (P : Program) (ops : Array Oper) (Q : Exit → Act → World → Prop) (S : World → Prop) : Nat → Array Bool → Act → World → Prop
  | 0, listed, a, w => Region.ready .any ops listed = [] ∧ Q .normal a w
  | fuel + 1, listed, a, w =>
    (Region.ready .any ops listed = [] → Q .normal a w) ∧
    ∀ i ∈ Region.ready .any ops listed, wpOp P ops Q i (fun a' w' => (lastB ops i = true ∨ S w') ∧ anyS P ops Q S fuel (listed.setIfInBounds i true) a' w') a w
theorem any_of_anyS : ∀ (fuel : Nat) (listed : Array Bool) (a : Act) (w : World), anyS P ops Q S fuel listed a w → wpAny P .any ops Q fuel listed a w
  | 0, _, _, _, h => h
  | fuel + 1, _, _, _, h => ⟨h.1, fun i hi => wpOp_mono (fun a' w' h' => any_of_anyS fuel _ a' w' h'.2) (h.2 i hi)⟩
theorem anyS_first {i : Nat} {oi : Oper} {v : Value} (hi : ops[i]? = some oi) (hsel : ∀ (j : Nat) (o : Oper) cs b, ops[j]? = some o → o.op ≠ .select cs b)
    (hQ : ∀ c a w, Q (.panic c) (a.put oi.dst v) w → Q (.panic c) a w) :
    ∀ (fuel : Nat) (listed : Array Bool) (a : Act) (w : World), HeadInv .any ops ops.size listed →
      (∀ j oj, ops[j]? = some oj → j ≠ i → listed.getD j true = false → (∀ e ∈ oj.after, Region.binds .any e = true → e.on ≠ i) → oi.apart ops oj = true) →
      i ∈ Region.ready .any ops listed → YieldsIf P ops S oi v a → S w →
      anyS P ops Q S fuel (listed.setIfInBounds i true) (a.put oi.dst v) w → anyS P ops Q S (fuel + 1) listed a w := by
  have hisz : i < ops.size := (Array.getElem?_eq_some_iff.1 hi).1
  intro fuel
  induction fuel with
  | zero =>
    intro listed a w inv _ hr hy hS H
    refine ⟨fun h => (by rw [h] at hr; cases hr), fun j hj => ?_⟩
    by_cases hji : j = i
    · subst hji; exact hy.wpOp hi hS ⟨.inr hS, H⟩
    · have := ready_mono hj hji
      rw [H.1] at this
      cases this
  | succ fuel ih =>
    intro listed a w inv hfree hr hy hS H
    refine ⟨fun h => (by rw [h] at hr; cases hr), fun j hj => ?_⟩
    by_cases hji : j = i
    · subst hji; exact hy.wpOp hi hS ⟨.inr hS, H⟩
    · have h1 := H.2 j (ready_mono hj hji)
      obtain ⟨hjun, oj, hoj, hall⟩ := mem_ready.1 hj
      have hiun := getD_both (mem_ready.1 hr).1
      have hnot : ∀ e ∈ oj.after, Region.binds .any e = true → e.on ≠ i := fun e he hb heq => by
        have h1 := hall e he hb
        rw [heq, hiun] at h1; cases h1
      have hnl : lastB ops j = true → False := fun hl => by
        have h2 := last_listed inv hl hoj hall _ i rfl hisz (Ne.symm hji)
        rw [hiun] at h2; cases h2
      have h2 := wpOp_putIf hoj (hfree j oj hoj hji hjun hnot) (fun cs b => hsel i oi cs b hi) (fun cs b => hsel j oj cs b hoj) hQ hy h1
      have hfree' : ∀ k ok, ops[k]? = some ok → k ≠ i → (listed.setIfInBounds j true).getD k true = false →
          (∀ e ∈ ok.after, Region.binds .any e = true → e.on ≠ i) → oi.apart ops ok = true := fun k ok hk hki hun hno => by
        refine hfree k ok hk hki ?_ hno
        by_cases hjk : j = k
        · subst hjk; exact hjun
        · rw [getD_set_ne true hjk] at hun; exact hun
      refine wpOp_mono (fun a' w' h3 => ?_) h2
      have hS' : S w' := h3.2.1.resolve_left fun hl => hnl hl
      refine ⟨.inr hS', ih (listed.setIfInBounds j true) a' w' (inv.set hj (by have := (mem_ready.1 hj).2; obtain ⟨o, ho, _⟩ := this; exact (Array.getElem?_eq_some_iff.1 ho).1)) hfree' (ready_mono hr (Ne.symm hji)) h3.1 hS' ?_⟩
      rw [Array.setIfInBounds_comm _ _ hji]
      exact h3.2.2

def lastOf : List (Nat × Bool) → Bool → Bool
  | [], b => b
  | _ :: _, _ => false
theorem lastOf_spec {l : List (Nat × Bool)} {b : Bool} (h : lastOf l b = true) : l = [] ∧ b = true := by cases l with
  | nil => exact ⟨rfl, h⟩
  | cons x r => cases h
/-- The canonical order: (i, true): number i reads and is taken first; (i, false): number i is the one that may come. -/
def wHeld (P : Program) (ty : Nat → Sh) (N : Nat) (ops : Array Oper) (S : World → Prop) : List (Nat × Bool) → Array Bool → Env → World → (Env → World → Prop) → Prop
  | [], listed, e, w, K => match Region.ready .any ops listed with
    | [] => K e w
    | _ => False
  | (i, true) :: r, listed, e, w, K => match ops[i]? with
    | none => False
    | some o => match Region.free .any ops listed i with
      | false => False
      | true => match (Region.ready .any ops listed).contains i with
        | false => False
        | true => wGuard P ty N (.held S) ops.toList o e w fun e' w' => wHeld P ty N ops S r (listed.setIfInBounds i true) e' w' K
  | (i, false) :: r, listed, e, w, K => match ops[i]? with
    | none => False
    | some o => match Region.ready .any ops listed with
      | [j] => match Nat.beq j i with
        | false => False
        | true => match lastOf r (lastB ops i) with
          | true => wGuard P ty N .full ops.toList o e w fun e' w' => wHeld P ty N ops S r (listed.setIfInBounds i true) e' w' K
          | false => wGuard P ty N .full ops.toList o e w fun e' w' => S w' ∧ wHeld P ty N ops S r (listed.setIfInBounds i true) e' w' K
      | _ => False

/-- As 'wHeld', but behind each effect more may be asked of the worlds that come: what has been made since then lies there. -/
def wHeldS (P : Program) (ty : Nat → Sh) (N : Nat) (ops : Array Oper) : (World → Prop) → List (Nat × Bool) → Array Bool → Env → World → (Env → World → Prop) → Prop
  | _, [], listed, e, w, K => match Region.ready .any ops listed with
    | [] => K e w
    | _ => False
  | S, (i, true) :: r, listed, e, w, K => match ops[i]? with
    | none => False
    | some o => match Region.free .any ops listed i with
      | false => False
      | true => match (Region.ready .any ops listed).contains i with
        | false => False
        | true => wGuard P ty N (.held S) ops.toList o e w fun e' w' => wHeldS P ty N ops S r (listed.setIfInBounds i true) e' w' K
  | S, (i, false) :: r, listed, e, w, K => match ops[i]? with
    | none => False
    | some o => match Region.ready .any ops listed with
      | [j] => match Nat.beq j i with
        | false => False
        | true => match lastOf r (lastB ops i) with
          | true => wGuard P ty N .full ops.toList o e w fun e' w' => wHeldS P ty N ops S r (listed.setIfInBounds i true) e' w' K
          | false => wGuard P ty N .full ops.toList o e w fun e' w' => ∃ S' : World → Prop, (∀ w2, S' w2 → S w2) ∧ S' w' ∧ wHeldS P ty N ops S' r (listed.setIfInBounds i true) e' w' K
      | _ => False

def noPan (Q : Exit → Act → World → Prop) : Exit → Act → World → Prop
  | .panic _, _, _ => False
  | e, a, w => Q e a w

theorem wStep_held {o : Oper} {e : Env} {a : Act} {w : World} {K : Env → World → Prop}
    (h : wStep P ty N (.held S) o e w K) (hs : Sub D N e a) : ∃ v b, K (put e o.dst (v, b)) w ∧ fits N o.dst = true ∧ ∀ w2, S w2 → (execOp a.eval o).run P w2 = .ok (.value v) w2 :=
  wStep_open h hs (fun v b hK hf hr => ⟨v, b, hK, hf, fun w2 _ => hr w2⟩)
    (fun l ho hl hf h => by
      obtain ⟨v, b, hK, hr⟩ := h
      exact ⟨v, b, hK, hf, fun w2 hS => by rw [hs.exec ho hl]; exact hr w2 hS⟩)

theorem wHeld_sound (hsel : Region.noSelect ops = true) : ∀ (l : List (Nat × Bool)) (listed : Array Bool) (e : Env) (a : Act) (w : World) (K : Env → World → Prop) (wr : List Nat),
    (∀ i b, (i, b) ∈ l → ∀ o, ops[i]? = some o → ∀ d, o.dst = some d → memN d wr = true) →
    wHeld P ty N ops S l listed e w K → HeadInv .any ops ops.size listed → Sub D N e a → (S w ∨ l = []) → (∀ e' w' a', K e' w' → Ext wr e e' → Sub D N e' a' → Q .normal a' w') →
    anyS P ops (noPan Q) S l.length listed a w
  | [], listed, e, a, w, K, wr, hwr, h, inv, hs, hS, hk => by
    simp only [wHeld] at h
    split at h
    · rename_i hr; exact ⟨hr, hk _ _ _ h (.refl _ _) hs⟩
    · exact h.elim
  | (i, true) :: r, listed, e, a, w, K, wr, hwr, h, inv, hs, hS, hk => by
    have hS : S w := hS.resolve_right (by simp)
    simp only [wHeld] at h
    split at h
    · exact h.elim
    rename_i o ho
    split at h
    · exact h.elim
    rename_i hf
    split at h
    · exact h.elim
    rename_i hr
    have hr' : i ∈ Region.ready .any ops listed := by simpa using hr
    have hin : i < ops.size := (Array.getElem?_eq_some_iff.1 ho).1
    have hd : ∀ t, memN t wr = false → memN t o.dst.toList = false := fun t ht => by
      cases hdst : o.dst with
      | none => rfl
      | some d =>
        have := hwr i true (by simp) o ho d hdst
        have hne : d ≠ t := by rintro rfl; rw [this] at ht; cases ht
        simp only [Option.toList, memN]
        cases hb : Nat.beq d t with
        | true => exact absurd (Nat.eq_of_beq_eq_true hb) hne
        | false => rfl
    have hops : ops = ops.toList.toArray := by simp
    refine wGuard_open h hs (fun e1 he hs hw h => ?_) (fun e1 he hs hfit hw h => ?_)
    · obtain ⟨v, b, hK, hfit, hrun⟩ := wStep_held h hs
      refine anyS_first ho (Region.noSelect_spec hsel) (fun c a w hh => hh) _ _ _ _ inv (Region.free_spec ho hf) hr' (.inl ⟨by rw [hops]; exact hw, hrun⟩) hS ?_
      refine wHeld_sound hsel r _ _ _ _ K wr (fun i b hm => hwr i b (by simp [hm])) hK (inv.set hr' hin) (hs.put (v := (v, b)) hfit) (.inl hS) fun e' w' a' h1 h2 h3 => hk _ _ _ h1 ?_ h3
      exact ((he.mono fun _ _ => rfl).trans' ((Ext.put e1 o.dst (v, b)).mono hd)).trans' h2
    · refine anyS_first ho (Region.noSelect_spec hsel) (fun c a w hh => hh) _ _ _ _ inv (Region.free_spec ho hf) hr' (.inr ⟨by rw [hops]; exact hw, rfl⟩) hS ?_
      refine wHeld_sound hsel r _ _ _ _ K wr (fun i b hm => hwr i b (by simp [hm])) h (inv.set hr' hin) (hs.put (v := (undef, false)) hfit) (.inl hS) fun e' w' a' h1 h2 h3 => hk _ _ _ h1 ?_ h3
      exact ((he.mono fun _ _ => rfl).trans' ((Ext.put e1 o.dst (undef, false)).mono hd)).trans' h2
  | (i, false) :: r, listed, e, a, w, K, wr, hwr, h, inv, hs, hS, hk => by
    have hS : S w := hS.resolve_right (by simp)
    simp only [wHeld] at h
    split at h
    · exact h.elim
    rename_i o ho
    split at h
    · rename_i j hr
      split at h
      · exact h.elim
      rename_i hji
      have hji := Nat.eq_of_beq_eq_true hji
      subst hji
      have hr' : j ∈ Region.ready .any ops listed := by rw [hr]; simp
      have hin : j < ops.size := (Array.getElem?_eq_some_iff.1 ho).1
      have hd : ∀ t, memN t wr = false → memN t o.dst.toList = false := fun t ht => by
        cases hdst : o.dst with
        | none => rfl
        | some d =>
          have := hwr j false (by simp) o ho d hdst
          have hne : d ≠ t := by rintro rfl; rw [this] at ht; cases ht
          simp only [Option.toList, memN]
          cases hb : Nat.beq d t with
          | true => exact absurd (Nat.eq_of_beq_eq_true hb) hne
          | false => rfl
      have hops : ops = ops.toList.toArray := by simp
      have key : ∀ (K2 : Env → World → Prop), (∀ e' w', K2 e' w' → (lastB ops j = true ∨ S w') ∧ (S w' ∨ r = []) ∧ wHeld P ty N ops S r (listed.setIfInBounds j true) e' w' K) →
          wGuard P ty N .full ops.toList o e w K2 → wpOp P ops (noPan Q) j (fun a' w' => (lastB ops j = true ∨ S w') ∧ anyS P ops (noPan Q) S r.length (listed.setIfInBounds j true) a' w') a w := fun K2 hK2 h => by
        unfold wpOp
        simp only [ho]
        refine wGuard_open h hs (fun e1 he hs hw h => ?_) (fun e1 he hs hfit hw h => ?_)
        · rw [if_pos (by rw [hops]; exact hw)]
          refine .inl (wStep_sound h hs fun v w' a' hh hs' => ?_)
          obtain ⟨g1, g2, g3⟩ := hK2 _ _ hh
          exact ⟨g1, wHeld_sound hsel r _ _ _ _ K wr (fun i b hm => hwr i b (by simp [hm])) g3 (inv.set hr' hin) hs' g2 fun e' w' a' h1 h2 h3 => hk _ _ _ h1 (((he.mono fun _ _ => rfl).trans' ((Ext.put e1 o.dst v).mono hd)).trans' h2) h3⟩
        · rw [if_neg (by rw [hops]; simp [hw])]
          obtain ⟨g1, g2, g3⟩ := hK2 _ _ h
          exact ⟨g1, wHeld_sound hsel r _ _ _ _ K wr (fun i b hm => hwr i b (by simp [hm])) g3 (inv.set hr' hin) (hs.put (v := (undef, false)) hfit) g2 fun e' w' a' h1 h2 h3 => hk _ _ _ h1 (((he.mono fun _ _ => rfl).trans' ((Ext.put e1 o.dst (undef, false)).mono hd)).trans' h2) h3⟩
      refine ⟨fun h0 => (by rw [h0] at hr'; cases hr'), fun i hi => ?_⟩
      have hij : i = j := by rw [hr] at hi; simpa using hi
      subst hij
      split at h
      · rename_i hl
        obtain ⟨h1, h2⟩ := lastOf_spec hl
        exact key _ (fun e' w' hh => ⟨.inl h2, .inr h1, hh⟩) h
      · exact key _ (fun e' w' hh => ⟨.inr hh.1, .inl hh.1, hh.2⟩) h
    · exact h.elim

theorem anyS_mono {S S' : World → Prop} {Q : Exit → Act → World → Prop} (h : ∀ w, S' w → S w) : ∀ (fuel : Nat) (listed : Array Bool) (a : Act) (w : World), anyS P ops Q S' fuel listed a w → anyS P ops Q S fuel listed a w
  | 0, _, _, _, k => k
  | fuel + 1, _, _, _, k => ⟨k.1, fun i hi => wpOp_mono (fun a' w' h' => ⟨h'.1.imp_right (h w'), anyS_mono h fuel _ a' w' h'.2⟩) (k.2 i hi)⟩
theorem wHeldS_sound (hsel : Region.noSelect ops = true) : ∀ (S : World → Prop) (l : List (Nat × Bool)) (listed : Array Bool) (e : Env) (a : Act) (w : World) (K : Env → World → Prop) (wr : List Nat),
    (∀ i b, (i, b) ∈ l → ∀ o, ops[i]? = some o → ∀ d, o.dst = some d → memN d wr = true) →
    wHeldS P ty N ops S l listed e w K → HeadInv .any ops ops.size listed → Sub D N e a → (S w ∨ l = []) → (∀ e' w' a', K e' w' → Ext wr e e' → Sub D N e' a' → Q .normal a' w') →
    anyS P ops (noPan Q) S l.length listed a w
  | S, [], listed, e, a, w, K, wr, hwr, h, inv, hs, hS, hk => by
    simp only [wHeldS] at h
    split at h
    · rename_i hr; exact ⟨hr, hk _ _ _ h (.refl _ _) hs⟩
    · exact h.elim
  | S, (i, true) :: r, listed, e, a, w, K, wr, hwr, h, inv, hs, hS, hk => by
    have hS : S w := hS.resolve_right (by simp)
    simp only [wHeldS] at h
    split at h
    · exact h.elim
    rename_i o ho
    split at h
    · exact h.elim
    rename_i hf
    split at h
    · exact h.elim
    rename_i hr
    have hr' : i ∈ Region.ready .any ops listed := by simpa using hr
    have hin : i < ops.size := (Array.getElem?_eq_some_iff.1 ho).1
    have hd : ∀ t, memN t wr = false → memN t o.dst.toList = false := fun t ht => by
      cases hdst : o.dst with
      | none => rfl
      | some d =>
        have := hwr i true (by simp) o ho d hdst
        have hne : d ≠ t := by rintro rfl; rw [this] at ht; cases ht
        simp only [Option.toList, memN]
        cases hb : Nat.beq d t with
        | true => exact absurd (Nat.eq_of_beq_eq_true hb) hne
        | false => rfl
    have hops : ops = ops.toList.toArray := by simp
    refine wGuard_open h hs (fun e1 he hs hw h => ?_) (fun e1 he hs hfit hw h => ?_)
    · obtain ⟨v, b, hK, hfit, hrun⟩ := wStep_held h hs
      refine anyS_first ho (Region.noSelect_spec hsel) (fun c a w hh => hh) _ _ _ _ inv (Region.free_spec ho hf) hr' (.inl ⟨by rw [hops]; exact hw, hrun⟩) hS ?_
      refine wHeldS_sound hsel S r _ _ _ _ K wr (fun i b hm => hwr i b (by simp [hm])) hK (inv.set hr' hin) (hs.put (v := (v, b)) hfit) (.inl hS) fun e' w' a' h1 h2 h3 => hk _ _ _ h1 ?_ h3
      exact ((he.mono fun _ _ => rfl).trans' ((Ext.put e1 o.dst (v, b)).mono hd)).trans' h2
    · refine anyS_first ho (Region.noSelect_spec hsel) (fun c a w hh => hh) _ _ _ _ inv (Region.free_spec ho hf) hr' (.inr ⟨by rw [hops]; exact hw, rfl⟩) hS ?_
      refine wHeldS_sound hsel S r _ _ _ _ K wr (fun i b hm => hwr i b (by simp [hm])) h (inv.set hr' hin) (hs.put (v := (undef, false)) hfit) (.inl hS) fun e' w' a' h1 h2 h3 => hk _ _ _ h1 ?_ h3
      exact ((he.mono fun _ _ => rfl).trans' ((Ext.put e1 o.dst (undef, false)).mono hd)).trans' h2
  | S, (i, false) :: r, listed, e, a, w, K, wr, hwr, h, inv, hs, hS, hk => by
    have hS : S w := hS.resolve_right (by simp)
    simp only [wHeldS] at h
    split at h
    · exact h.elim
    rename_i o ho
    split at h
    · rename_i j hr
      split at h
      · exact h.elim
      rename_i hji
      have hji := Nat.eq_of_beq_eq_true hji
      subst hji
      have hr' : j ∈ Region.ready .any ops listed := by rw [hr]; simp
      have hin : j < ops.size := (Array.getElem?_eq_some_iff.1 ho).1
      have hd : ∀ t, memN t wr = false → memN t o.dst.toList = false := fun t ht => by
        cases hdst : o.dst with
        | none => rfl
        | some d =>
          have := hwr j false (by simp) o ho d hdst
          have hne : d ≠ t := by rintro rfl; rw [this] at ht; cases ht
          simp only [Option.toList, memN]
          cases hb : Nat.beq d t with
          | true => exact absurd (Nat.eq_of_beq_eq_true hb) hne
          | false => rfl
      have hops : ops = ops.toList.toArray := by simp
      have key : ∀ (K2 : Env → World → Prop), (∀ e' w', K2 e' w' → (lastB ops j = true ∨ S w') ∧ ∃ S' : World → Prop, (∀ w2, S' w2 → S w2) ∧ (S' w' ∨ r = []) ∧ wHeldS P ty N ops S' r (listed.setIfInBounds j true) e' w' K) →
          wGuard P ty N .full ops.toList o e w K2 → wpOp P ops (noPan Q) j (fun a' w' => (lastB ops j = true ∨ S w') ∧ anyS P ops (noPan Q) S r.length (listed.setIfInBounds j true) a' w') a w := fun K2 hK2 h => by
        unfold wpOp
        simp only [ho]
        refine wGuard_open h hs (fun e1 he hs hw h => ?_) (fun e1 he hs hfit hw h => ?_)
        · rw [if_pos (by rw [hops]; exact hw)]
          refine .inl (wStep_sound h hs fun v w' a' hh hs' => ?_)
          obtain ⟨g1, S', g0, g2, g3⟩ := hK2 _ _ hh
          exact ⟨g1, anyS_mono g0 _ _ _ _ <| wHeldS_sound hsel S' r _ _ _ _ K wr (fun i b hm => hwr i b (by simp [hm])) g3 (inv.set hr' hin) hs' g2 fun e' w' a' h1 h2 h3 => hk _ _ _ h1 (((he.mono fun _ _ => rfl).trans' ((Ext.put e1 o.dst v).mono hd)).trans' h2) h3⟩
        · rw [if_neg (by rw [hops]; simp [hw])]
          obtain ⟨g1, S', g0, g2, g3⟩ := hK2 _ _ h
          exact ⟨g1, anyS_mono g0 _ _ _ _ <| wHeldS_sound hsel S' r _ _ _ _ K wr (fun i b hm => hwr i b (by simp [hm])) g3 (inv.set hr' hin) (hs.put (v := (undef, false)) hfit) g2 fun e' w' a' h1 h2 h3 => hk _ _ _ h1 (((he.mono fun _ _ => rfl).trans' ((Ext.put e1 o.dst (undef, false)).mono hd)).trans' h2) h3⟩
      refine ⟨fun h0 => (by rw [h0] at hr'; cases hr'), fun i hi => ?_⟩
      have hij : i = j := by rw [hr] at hi; simpa using hi
      subst hij
      split at h
      · rename_i hl
        obtain ⟨h1, h2⟩ := lastOf_spec hl
        exact key _ (fun e' w' hh => ⟨.inl h2, S, fun _ h => h, .inr h1, hh⟩) h
      · exact key _ (fun e' w' hh => by
          obtain ⟨S', q1, q2, q3⟩ := hh
          exact ⟨.inr (q1 _ q2), S', q1, .inl q2, q3⟩) h
    · exact h.elim

/-! ### .. and where an effect that waits for every read ends what the reads ask of the world -/
/-- Number j waits for each that reads the memory. -/
def clearB (ops : Array Oper) (H : List Nat) (j : Nat) : Bool := H.all fun i => Region.waitsFor .any ops j i
def anyC (P : Program) (ops : Array Oper) (Q : Exit → Act → World → Prop) (S : World → Prop) (H : List Nat) : Nat → Bool → Array Bool → Act → World → Prop
  | 0, _, listed, a, w => Region.ready .any ops listed = [] ∧ Q .normal a w
  | fuel + 1, ok, listed, a, w =>
    (Region.ready .any ops listed = [] → Q .normal a w) ∧
    ∀ i ∈ Region.ready .any ops listed, wpOp P ops Q i (fun a' w' => (ok = true ∧ S w' ∧ anyC P ops Q S H fuel true (listed.setIfInBounds i true) a' w') ∨ ((ok = true → clearB ops H i = true) ∧ anyC P ops Q S H fuel false (listed.setIfInBounds i true) a' w')) a w
theorem any_of_anyC {H : List Nat} : ∀ (fuel : Nat) (ok : Bool) (listed : Array Bool) (a : Act) (w : World), anyC P ops Q S H fuel ok listed a w → wpAny P .any ops Q fuel listed a w
  | 0, _, _, _, _, h => h
  | fuel + 1, _, _, _, _, h => ⟨h.1, fun i hi => wpOp_mono (fun a' w' h' => by
      rcases h' with ⟨_, _, h'⟩ | ⟨_, h'⟩
      · exact any_of_anyC fuel _ _ a' w' h'
      · exact any_of_anyC fuel _ _ a' w' h') (h.2 i hi)⟩
theorem anyC_first {H : List Nat} {S' : World → Prop} {i : Nat} {oi : Oper} {v : Value} (hi : ops[i]? = some oi) (hsel : ∀ (j : Nat) (o : Oper) cs b, ops[j]? = some o → o.op ≠ .select cs b)
    (hQ : ∀ c a w, Q (.panic c) (a.put oi.dst v) w → Q (.panic c) a w) :
    ∀ (fuel : Nat) (ok : Bool) (listed : Array Bool) (a : Act) (w : World), HeadInv .any ops ops.size listed →
      (∀ j oj, ops[j]? = some oj → j ≠ i → listed.getD j true = false → (∀ e ∈ oj.after, Region.binds .any e = true → e.on ≠ i) → oi.apart ops oj = true) →
      i ∈ Region.ready .any ops listed → YieldsIf P ops S' oi v a → ((∀ w, S' w) ∨ ((∀ w, S w → S' w) ∧ i ∈ H ∧ ok = true)) → (ok = true → S w) →
      anyC P ops Q S H fuel ok (listed.setIfInBounds i true) (a.put oi.dst v) w → anyC P ops Q S H (fuel + 1) ok listed a w := by
  have hisz : i < ops.size := (Array.getElem?_eq_some_iff.1 hi).1
  have own : ∀ {ok : Bool} {w : World}, ((∀ w, S' w) ∨ ((∀ w, S w → S' w) ∧ i ∈ H ∧ ok = true)) → (ok = true → S w) → S' w := fun hk hS => by
    rcases hk with hk | ⟨hk, _, h⟩
    · exact hk _
    · exact hk _ (hS h)
  intro fuel
  induction fuel with
  | zero =>
    intro ok listed a w inv _ hr hy hk hS h0
    refine ⟨fun h => (by rw [h] at hr; cases hr), fun j hj => ?_⟩
    by_cases hji : j = i
    · subst hji
      refine hy.wpOp hi (own hk hS) ?_
      cases ok
      · exact .inr ⟨fun h => (by cases h), h0⟩
      · exact .inl ⟨rfl, hS rfl, h0⟩
    · have := ready_mono hj hji
      rw [h0.1] at this
      cases this
  | succ fuel ih =>
    intro ok listed a w inv hfree hr hy hk hS h0
    refine ⟨fun h => (by rw [h] at hr; cases hr), fun j hj => ?_⟩
    by_cases hji : j = i
    · subst hji
      refine hy.wpOp hi (own hk hS) ?_
      cases ok
      · exact .inr ⟨fun h => (by cases h), h0⟩
      · exact .inl ⟨rfl, hS rfl, h0⟩
    · have h1 := h0.2 j (ready_mono hj hji)
      obtain ⟨hjun, oj, hoj, hall⟩ := mem_ready.1 hj
      have hiun := getD_both (mem_ready.1 hr).1
      have hnot : ∀ e ∈ oj.after, Region.binds .any e = true → e.on ≠ i := fun e he hb heq => by
        have h1 := hall e he hb
        rw [heq, hiun] at h1; cases h1
      have hnc : i ∈ H → clearB ops H j = true → False := fun hm hl => by
        have h2 := List.all_eq_true.1 hl i hm
        obtain ⟨om, hom, e, he, hb, hon⟩ := Region.waitsFor_spec h2
        have : om = oj := Option.some.inj (hom.symm.trans hoj)
        subst this
        exact hnot e he hb hon
      have h2 := wpOp_putIf hoj (hfree j oj hoj hji hjun hnot) (fun cs b => hsel i oi cs b hi) (fun cs b => hsel j oj cs b hoj) hQ hy h1
      have hfree' : ∀ k ok, ops[k]? = some ok → k ≠ i → (listed.setIfInBounds j true).getD k true = false →
          (∀ e ∈ ok.after, Region.binds .any e = true → e.on ≠ i) → oi.apart ops ok = true := fun k ok hk hki hun hno => by
        refine hfree k ok hk hki ?_ hno
        by_cases hjk : j = k
        · subst hjk; exact hjun
        · rw [getD_set_ne true hjk] at hun; exact hun
      have inv' := inv.set hj (by have := (mem_ready.1 hj).2; obtain ⟨o, ho, _⟩ := this; exact (Array.getElem?_eq_some_iff.1 ho).1)
      refine wpOp_mono (fun a' w' h3 => ?_) h2
      rcases h3.2 with ⟨hok, hS', hA⟩ | ⟨hcl, hA⟩
      · refine .inl ⟨hok, hS', ih true (listed.setIfInBounds j true) a' w' inv' hfree' (ready_mono hr (Ne.symm hji)) h3.1 (hk.imp id fun h => ⟨h.1, h.2.1, rfl⟩) (fun _ => hS') ?_⟩
        rw [Array.setIfInBounds_comm _ _ hji]
        exact hA
      · refine .inr ⟨hcl, ih false (listed.setIfInBounds j true) a' w' inv' hfree' (ready_mono hr (Ne.symm hji)) h3.1 (.inl ?_) (fun h => (by cases h)) ?_⟩
        · rcases hk with hk | ⟨_, hm, hok⟩
          · exact hk
          · exact (hnc hm (hcl hok)).elim
        · rw [Array.setIfInBounds_comm _ _ hji]
          exact hA
/-- The canonical order, as 'wHeld'; H: those that read the memory; 'ok': no effect has ended what they ask. -/
def wHeldC (P : Program) (ty : Nat → Sh) (N : Nat) (ops : Array Oper) (S : World → Prop) (H : List Nat) : List (Nat × Bool) → Bool → Array Bool → Env → World → (Env → World → Prop) → Prop
  | [], _, listed, e, w, K => match Region.ready .any ops listed with
    | [] => K e w
    | _ => False
  | (i, true) :: r, ok, listed, e, w, K => match ops[i]? with
    | none => False
    | some o => match Region.free .any ops listed i with
      | false => False
      | true => match (Region.ready .any ops listed).contains i with
        | false => False
        | true => match H.contains i with
          | true => match ok with
            | false => False
            | true => wGuard P ty N (.held S) ops.toList o e w fun e' w' => wHeldC P ty N ops S H r true (listed.setIfInBounds i true) e' w' K
          | false => wGuard P ty N (.held fun _ => True) ops.toList o e w fun e' w' => wHeldC P ty N ops S H r ok (listed.setIfInBounds i true) e' w' K
  | (i, false) :: r, ok, listed, e, w, K => match ops[i]? with
    | none => False
    | some o => match Region.ready .any ops listed with
      | [j] => match Nat.beq j i with
        | false => False
        | true => match clearB ops H i with
          | true => wGuard P ty N .full ops.toList o e w fun e' w' => wHeldC P ty N ops S H r false (listed.setIfInBounds i true) e' w' K
          | false => match ok with
            | false => False
            | true => wGuard P ty N .full ops.toList o e w fun e' w' => S w' ∧ wHeldC P ty N ops S H r true (listed.setIfInBounds i true) e' w' K
      | _ => False
theorem wHeldC_sound {H : List Nat} (hsel : Region.noSelect ops = true) : ∀ (l : List (Nat × Bool)) (ok : Bool) (listed : Array Bool) (e : Env) (a : Act) (w : World) (K : Env → World → Prop) (wr : List Nat),
    (∀ i b, (i, b) ∈ l → ∀ o, ops[i]? = some o → ∀ d, o.dst = some d → memN d wr = true) →
    wHeldC P ty N ops S H l ok listed e w K → HeadInv .any ops ops.size listed → Sub D N e a → (ok = true → S w) → (∀ e' w' a', K e' w' → Ext wr e e' → Sub D N e' a' → Q .normal a' w') →
    anyC P ops (noPan Q) S H l.length ok listed a w
  | [], ok, listed, e, a, w, K, wr, hwr, h, inv, hs, hS, hk => by
    simp only [wHeldC] at h
    split at h
    · rename_i hr; exact ⟨hr, hk _ _ _ h (.refl _ _) hs⟩
    · exact h.elim
  | (i, true) :: r, ok, listed, e, a, w, K, wr, hwr, h, inv, hs, hS, hk => by
    simp only [wHeldC] at h
    split at h
    · exact h.elim
    rename_i o ho
    split at h
    · exact h.elim
    rename_i hf
    split at h
    · exact h.elim
    rename_i hr
    have hr' : i ∈ Region.ready .any ops listed := by simpa using hr
    have hin : i < ops.size := (Array.getElem?_eq_some_iff.1 ho).1
    have hd : ∀ t, memN t wr = false → memN t o.dst.toList = false := fun t ht => by
      cases hdst : o.dst with
      | none => rfl
      | some d =>
        have := hwr i true (by simp) o ho d hdst
        have hne : d ≠ t := by rintro rfl; rw [this] at ht; cases ht
        simp only [Option.toList, memN]
        cases hb : Nat.beq d t with
        | true => exact absurd (Nat.eq_of_beq_eq_true hb) hne
        | false => rfl
    have hops : ops = ops.toList.toArray := by simp
    have key : ∀ (S' : World → Prop), ((∀ w, S' w) ∨ ((∀ w, S w → S' w) ∧ i ∈ H ∧ ok = true)) →
        (wGuard P ty N (.held S') ops.toList o e w fun e' w' => wHeldC P ty N ops S H r ok (listed.setIfInBounds i true) e' w' K) → anyC P ops (noPan Q) S H ((i, true) :: r).length ok listed a w := fun S' hk' h => by
      refine wGuard_open h hs (fun e1 he hs hw h => ?_) (fun e1 he hs hfit hw h => ?_)
      · obtain ⟨v, b, hK, hfit, hrun⟩ := wStep_held h hs
        refine anyC_first ho (Region.noSelect_spec hsel) (fun c a w hh => hh) _ _ _ _ _ inv (Region.free_spec ho hf) hr' (.inl ⟨by rw [hops]; exact hw, hrun⟩) hk' hS ?_
        refine wHeldC_sound hsel r _ _ _ _ _ K wr (fun i b hm => hwr i b (by simp [hm])) hK (inv.set hr' hin) (hs.put (v := (v, b)) hfit) hS fun e' w' a' h1 h2 h3 => hk _ _ _ h1 ?_ h3
        exact ((he.mono fun _ _ => rfl).trans' ((Ext.put e1 o.dst (v, b)).mono hd)).trans' h2
      · refine anyC_first ho (Region.noSelect_spec hsel) (fun c a w hh => hh) _ _ _ _ _ inv (Region.free_spec ho hf) hr' (.inr ⟨by rw [hops]; exact hw, rfl⟩) hk' hS ?_
        refine wHeldC_sound hsel r _ _ _ _ _ K wr (fun i b hm => hwr i b (by simp [hm])) h (inv.set hr' hin) (hs.put (v := (undef, false)) hfit) hS fun e' w' a' h1 h2 h3 => hk _ _ _ h1 ?_ h3
        exact ((he.mono fun _ _ => rfl).trans' ((Ext.put e1 o.dst (undef, false)).mono hd)).trans' h2
    split at h
    · rename_i hm
      cases ok
      · exact h.elim
      · exact key S (.inr ⟨fun _ h => h, by simpa using hm, rfl⟩) h
    · exact key (fun _ => True) (.inl fun _ => trivial) h
  | (i, false) :: r, ok, listed, e, a, w, K, wr, hwr, h, inv, hs, hS, hk => by
    simp only [wHeldC] at h
    split at h
    · exact h.elim
    rename_i o ho
    split at h
    · rename_i j hr
      split at h
      · exact h.elim
      rename_i hji
      have hji := Nat.eq_of_beq_eq_true hji
      subst hji
      have hr' : j ∈ Region.ready .any ops listed := by rw [hr]; simp
      have hin : j < ops.size := (Array.getElem?_eq_some_iff.1 ho).1
      have hd : ∀ t, memN t wr = false → memN t o.dst.toList = false := fun t ht => by
        cases hdst : o.dst with
        | none => rfl
        | some d =>
          have := hwr j false (by simp) o ho d hdst
          have hne : d ≠ t := by rintro rfl; rw [this] at ht; cases ht
          simp only [Option.toList, memN]
          cases hb : Nat.beq d t with
          | true => exact absurd (Nat.eq_of_beq_eq_true hb) hne
          | false => rfl
      have hops : ops = ops.toList.toArray := by simp
      have key : ∀ (ok' : Bool) (K2 : Env → World → Prop), (ok' = true → ok = true) → (ok' = false → ok = true → clearB ops H j = true) → (∀ e' w', K2 e' w' → (ok' = true → S w') ∧ wHeldC P ty N ops S H r ok' (listed.setIfInBounds j true) e' w' K) →
          wGuard P ty N .full ops.toList o e w K2 → wpOp P ops (noPan Q) j (fun a' w' => (ok = true ∧ S w' ∧ anyC P ops (noPan Q) S H r.length true (listed.setIfInBounds j true) a' w') ∨ ((ok = true → clearB ops H j = true) ∧ anyC P ops (noPan Q) S H r.length false (listed.setIfInBounds j true) a' w')) a w := fun ok' K2 hok hcl hK2 h => by
        have fin : ∀ {a' : Act} {w' : World}, (ok' = true → S w') → anyC P ops (noPan Q) S H r.length ok' (listed.setIfInBounds j true) a' w' →
            (ok = true ∧ S w' ∧ anyC P ops (noPan Q) S H r.length true (listed.setIfInBounds j true) a' w') ∨ ((ok = true → clearB ops H j = true) ∧ anyC P ops (noPan Q) S H r.length false (listed.setIfInBounds j true) a' w') := fun h1 h2 => by
          cases ok'
          · exact .inr ⟨hcl rfl, h2⟩
          · exact .inl ⟨hok rfl, h1 rfl, h2⟩
        unfold wpOp
        simp only [ho]
        refine wGuard_open h hs (fun e1 he hs hw h => ?_) (fun e1 he hs hfit hw h => ?_)
        · rw [if_pos (by rw [hops]; exact hw)]
          refine .inl (wStep_sound h hs fun v w' a' hh hs' => ?_)
          obtain ⟨g1, g3⟩ := hK2 _ _ hh
          exact fin g1 (wHeldC_sound hsel r _ _ _ _ _ K wr (fun i b hm => hwr i b (by simp [hm])) g3 (inv.set hr' hin) hs' g1 fun e' w' a' h1 h2 h3 => hk _ _ _ h1 (((he.mono fun _ _ => rfl).trans' ((Ext.put e1 o.dst v).mono hd)).trans' h2) h3)
        · rw [if_neg (by rw [hops]; simp [hw])]
          obtain ⟨g1, g3⟩ := hK2 _ _ h
          exact fin g1 (wHeldC_sound hsel r _ _ _ _ _ K wr (fun i b hm => hwr i b (by simp [hm])) g3 (inv.set hr' hin) (hs.put (v := (undef, false)) hfit) g1 fun e' w' a' h1 h2 h3 => hk _ _ _ h1 (((he.mono fun _ _ => rfl).trans' ((Ext.put e1 o.dst (undef, false)).mono hd)).trans' h2) h3)
      refine ⟨fun h0 => (by rw [h0] at hr'; cases hr'), fun i hi => ?_⟩
      have hij : i = j := by rw [hr] at hi; simpa using hi
      subst hij
      split at h
      · rename_i hc
        exact key false _ (fun h => (by cases h)) (fun _ _ => hc) (fun e' w' hh => ⟨fun h => (by cases h), hh⟩) h
      · cases ok
        · exact h.elim
        · exact key true _ (fun h => h) (fun h => (by cases h)) (fun e' w' hh => ⟨fun _ => hh.1, hh.2⟩) h
    · exact h.elim

/-- An order in which effects may come in more than one row: done; number i reads and is taken first; number i may come (then 'r'), or the next of those that may come (then 'o'). -/
inductive Ord where
  | done
  | rd (i : Nat) (r : Ord)
  | ef (i : Nat) (r o : Ord)
def pickL : Option (List Nat) → List Nat → List Nat
  | some l, _ => l
  | none, d => d
def lastT : Ord → Bool → Bool
  | .done, b => b
  | _, _ => false
theorem lastT_spec {t : Ord} {b : Bool} (h : lastT t b = true) : t = .done ∧ b = true := by
  cases t with
  | done => exact ⟨rfl, h⟩
  | rd i r => cases h
  | ef i r o => cases h
def wTree (P : Program) (ty : Nat → Sh) (N : Nat) (ops : Array Oper) (S : World → Prop) : Ord → Option (List Nat) → Nat → Array Bool → Env → World → (Env → World → Prop) → Prop
  | .done, alts, n, listed, e, w, K => match alts with
    | none => match n with
      | 0 => match Region.ready .any ops listed with
        | [] => K e w
        | _ => False
      | _ + 1 => False
    | some l => match l with
      | [] => True
      | _ => False
  | .rd i r, alts, n, listed, e, w, K => match alts with
    | some _ => False
    | none => match n with
      | 0 => False
      | n + 1 => match ops[i]? with
        | none => False
        | some o => match Region.free .any ops listed i with
          | false => False
          | true => match (Region.ready .any ops listed).contains i with
            | false => False
            | true => wGuard P ty N (.held S) ops.toList o e w fun e' w' => wTree P ty N ops S r none n (listed.setIfInBounds i true) e' w' K
  | .ef i r o2, alts, n, listed, e, w, K => match n with
    | 0 => False
    | n + 1 => match ops[i]? with
      | none => False
      | some o => match pickL alts (Region.ready .any ops listed) with
        | j :: rest => match Nat.beq j i with
          | false => False
          | true => match rest with
            | [] => match lastT r (lastB ops i) with
              | true => wGuard P ty N .full ops.toList o e w fun e' w' => wTree P ty N ops S r none n (listed.setIfInBounds i true) e' w' K
              | false => wGuard P ty N .full ops.toList o e w fun e' w' => S w' ∧ wTree P ty N ops S r none n (listed.setIfInBounds i true) e' w' K
            | _ => (wGuard P ty N .full ops.toList o e w fun e' w' => S w' ∧ wTree P ty N ops S r none n (listed.setIfInBounds i true) e' w' K) ∧ wTree P ty N ops S o2 (some rest) (n + 1) listed e w K
        | [] => False

theorem wTree_sound (hsel : Region.noSelect ops = true) (wr : List Nat) (hwr : ∀ (i : Nat) (o : Oper), ops[i]? = some o → ∀ d, o.dst = some d → memN d wr = true) :
    ∀ (t : Ord) (alts : Option (List Nat)) (n : Nat) (listed : Array Bool) (e : Env) (a : Act) (w : World) (K : Env → World → Prop),
    wTree P ty N ops S t alts n listed e w K → HeadInv .any ops ops.size listed → Sub D N e a → (S w ∨ n = 0) → (∀ e' w' a', K e' w' → Ext wr e e' → Sub D N e' a' → Q .normal a' w') →
    match alts with
    | none => anyS P ops (noPan Q) S n listed a w
    | some l => (∀ j ∈ l, j ∈ Region.ready .any ops listed) → ∀ j ∈ l, wpOp P ops (noPan Q) j (fun a' w' => (lastB ops j = true ∨ S w') ∧ anyS P ops (noPan Q) S (n - 1) (listed.setIfInBounds j true) a' w') a w
  | .done, alts, n, listed, e, a, w, K, h, inv, hs, hS, hk => by
    cases alts with
    | none =>
      cases n with
      | zero =>
        simp only [wTree] at h
        split at h
        · rename_i hr; exact ⟨hr, hk _ _ _ h (.refl _ _) hs⟩
        · exact h.elim
      | succ n => exact h.elim
    | some l =>
      cases l with
      | nil => intro _ j hj; cases hj
      | cons x l => exact h.elim
  | .rd i r, alts, n, listed, e, a, w, K, h, inv, hs, hS, hk => by
    cases alts with
    | some l => exact h.elim
    | none =>
      cases n with
      | zero => exact h.elim
      | succ n =>
        have hS : S w := hS.resolve_right (by simp)
        simp only [wTree] at h
        split at h
        · exact h.elim
        rename_i o ho
        split at h
        · exact h.elim
        rename_i hf
        split at h
        · exact h.elim
        rename_i hr
        have hr' : i ∈ Region.ready .any ops listed := by simpa using hr
        have hin : i < ops.size := (Array.getElem?_eq_some_iff.1 ho).1
        have hd : ∀ t, memN t wr = false → memN t o.dst.toList = false := fun t ht => by
          cases hdst : o.dst with
          | none => rfl
          | some d =>
            have := hwr i o ho d hdst
            have hne : d ≠ t := by rintro rfl; rw [this] at ht; cases ht
            simp only [Option.toList, memN]
            cases hb : Nat.beq d t with
            | true => exact absurd (Nat.eq_of_beq_eq_true hb) hne
            | false => rfl
        have hops : ops = ops.toList.toArray := by simp
        show anyS P ops (noPan Q) S (n + 1) listed a w
        refine wGuard_open h hs (fun e1 he hs hw h => ?_) (fun e1 he hs hfit hw h => ?_)
        · obtain ⟨v, b, hK, hfit, hrun⟩ := wStep_held h hs
          refine anyS_first ho (Region.noSelect_spec hsel) (fun c a w hh => hh) _ _ _ _ inv (Region.free_spec ho hf) hr' (.inl ⟨by rw [hops]; exact hw, hrun⟩) hS ?_
          refine wTree_sound hsel wr hwr r none n _ _ _ _ K hK (inv.set hr' hin) (hs.put (v := (v, b)) hfit) (.inl hS) fun e' w' a' h1 h2 h3 => hk _ _ _ h1 ?_ h3
          exact ((he.mono fun _ _ => rfl).trans' ((Ext.put e1 o.dst (v, b)).mono hd)).trans' h2
        · refine anyS_first ho (Region.noSelect_spec hsel) (fun c a w hh => hh) _ _ _ _ inv (Region.free_spec ho hf) hr' (.inr ⟨by rw [hops]; exact hw, rfl⟩) hS ?_
          refine wTree_sound hsel wr hwr r none n _ _ _ _ K h (inv.set hr' hin) (hs.put (v := (undef, false)) hfit) (.inl hS) fun e' w' a' h1 h2 h3 => hk _ _ _ h1 ?_ h3
          exact ((he.mono fun _ _ => rfl).trans' ((Ext.put e1 o.dst (undef, false)).mono hd)).trans' h2
  | .ef i r o2, alts, n, listed, e, a, w, K, h, inv, hs, hS, hk => by
    cases n with
    | zero => exact h.elim
    | succ n =>
      have hS : S w := hS.resolve_right (by simp)
      have hops : ops = ops.toList.toArray := by simp
      -- what the chain says of every one of a list
      have chain : ∀ l : List Nat, (∀ j ∈ l, j ∈ Region.ready .any ops listed) → (pickL alts (Region.ready .any ops listed) = l →
          ∀ j ∈ l, wpOp P ops (noPan Q) j (fun a' w' => (lastB ops j = true ∨ S w') ∧ anyS P ops (noPan Q) S n (listed.setIfInBounds j true) a' w') a w) := by
        intro l hl heq
        simp only [wTree] at h
        split at h
        · exact h.elim
        rename_i o ho
        rw [heq] at h
        cases l with
        | nil => exact h.elim
        | cons j rest =>
          simp only at h
          split at h
          · exact h.elim
          rename_i hji
          have hji := Nat.eq_of_beq_eq_true hji
          subst hji
          have hr' : j ∈ Region.ready .any ops listed := hl j (by simp)
          have hin : j < ops.size := (Array.getElem?_eq_some_iff.1 ho).1
          have hd : ∀ t, memN t wr = false → memN t o.dst.toList = false := fun t ht => by
            cases hdst : o.dst with
            | none => rfl
            | some d =>
              have := hwr j o ho d hdst
              have hne : d ≠ t := by rintro rfl; rw [this] at ht; cases ht
              simp only [Option.toList, memN]
              cases hb : Nat.beq d t with
              | true => exact absurd (Nat.eq_of_beq_eq_true hb) hne
              | false => rfl
          have key : ∀ (K2 : Env → World → Prop), (∀ e' w', K2 e' w' → (lastB ops j = true ∨ S w') ∧ (S w' ∨ r = .done) ∧ wTree P ty N ops S r none n (listed.setIfInBounds j true) e' w' K) →
              wGuard P ty N .full ops.toList o e w K2 → wpOp P ops (noPan Q) j (fun a' w' => (lastB ops j = true ∨ S w') ∧ anyS P ops (noPan Q) S n (listed.setIfInBounds j true) a' w') a w := fun K2 hK2 h => by
            have fin : ∀ {e' w' a'}, (S w' ∨ r = .done) → wTree P ty N ops S r none n (listed.setIfInBounds j true) e' w' K → Ext wr e e' → Sub D N e' a' → anyS P ops (noPan Q) S n (listed.setIfInBounds j true) a' w' := fun {e' w' a'} g2 g3 hx hs' => by
              refine wTree_sound hsel wr hwr r none n _ _ _ _ K g3 (inv.set hr' hin) hs' ?_ fun e'' w'' a'' h1 h2 h3 => hk _ _ _ h1 (hx.trans' h2) h3
              rcases g2 with g2 | g2
              · exact .inl g2
              · subst g2
                cases n with
                | zero => exact .inr rfl
                | succ n => exact g3.elim
            unfold wpOp
            simp only [ho]
            refine wGuard_open h hs (fun e1 he hs hw h => ?_) (fun e1 he hs hfit hw h => ?_)
            · rw [if_pos (by rw [hops]; exact hw)]
              refine .inl (wStep_sound h hs fun v w' a' hh hs' => ?_)
              obtain ⟨g1, g2, g3⟩ := hK2 _ _ hh
              exact ⟨g1, fin g2 g3 ((he.mono fun _ _ => rfl).trans' ((Ext.put e1 o.dst v).mono hd)) hs'⟩
            · rw [if_neg (by rw [hops]; simp [hw])]
              obtain ⟨g1, g2, g3⟩ := hK2 _ _ h
              exact ⟨g1, fin g2 g3 ((he.mono fun _ _ => rfl).trans' ((Ext.put e1 o.dst (undef, false)).mono hd)) (hs.put (v := (undef, false)) hfit)⟩
          cases rest with
          | nil =>
            simp only at h
            intro i hi
            have hij : i = j := by simpa using hi
            subst hij
            split at h
            · rename_i hl
              obtain ⟨h1, h2⟩ := lastT_spec hl
              exact key _ (fun e' w' hh => ⟨.inl h2, .inr h1, hh⟩) h
            · exact key _ (fun e' w' hh => ⟨.inr hh.1, .inl hh.1, hh.2⟩) h
          | cons x rest =>
            simp only at h
            have hrest := wTree_sound hsel wr hwr o2 (some (x :: rest)) (n + 1) listed e a w K h.2 inv hs (.inl hS) hk (fun k hk => hl k (by simp [hk]))
            intro i hi
            rcases List.mem_cons.1 hi with rfl | hi
            · exact key _ (fun e' w' hh => ⟨.inr hh.1, .inl hh.1, hh.2⟩) h.1
            · exact hrest i hi
      cases alts with
      | none =>
        have hne : Region.ready .any ops listed ≠ [] := fun h0 => by
          simp only [wTree, pickL, h0] at h
          split at h <;> exact h.elim
        exact ⟨fun h0 => absurd h0 hne, fun i hi => chain _ (fun j hj => hj) rfl i hi⟩
      | some l => exact fun hl j hj => chain l hl rfl j hj
end

/-! ### Code -/
inductive Ex where
  | n
  | x (id : Nat)
  | g (l : Nat)
  | r
def Ex.exit : Ex → Exit
  | .n => .normal
  | .x id => .exit id
  | .g l => .goto l
  | .r => .ret
/-- How a region that draws is met: reads and quiet calls; the first so many read; by hand. -/
inductive Dr where
  | quiet
  | tail (n : Nat)
  | held (order : List (Nat × Bool))
  | heldS (order : List (Nat × Bool))
  | swap (reads : List Nat) (order : List (Nat × Bool))
  | tree (o : Ord)
  | raw
structure Ann where
  join : List (Nat × List (Nat × Leaf))
  loop : List (Nat × List (Nat × Leaf))
  draw : List (Nat × Dr)
  labs : List (Nat × List (Nat × Leaf)) := []
def look {α : Type} : List (Nat × α) → Nat → Option α
  | [], _ => none
  | (k, v) :: r, i => match Nat.beq k i with
    | true => some v
    | false => look r i
def firstReg : Code → Option Nat
  | .region id _ _ => some id
  | .seq a b => match firstReg a with
    | some i => some i
    | none => firstReg b
  | .block _ c => firstReg c
  | .loop c => firstReg c
  | .scope c => firstReg c
  | .cond _ a b => match firstReg a with
    | some i => some i
    | none => firstReg b
  | _ => none
def writes : Code → List Nat
  | .region _ ops _ => dsts ops.toList
  | .seq a b => writes a ++ writes b
  | .block _ c => writes c
  | .loop c => writes c
  | .scope c => writes c
  | .cond _ a b => writes a ++ writes b
  | _ => []

def inside : List (Nat × Leaf) → List Nat → Bool
  | [], _ => true
  | (s, _) :: r, wr => match memN s wr with
    | true => inside r wr
    | false => false
/-- A relation on some slots' values and a world. -/
def Cur (R : Type) : List (Nat × Leaf) → Type
  | [] => World → R
  | (_, l) :: r => l.T → Cur R r
def castP : (l : Leaf) → Value → (l.T → Prop) → Prop
  | .bool, v, f => match v with
    | .bool x => f x
    | _ => False
  | .int k, v, f => match v with
    | .int k' x => match sameK k k' with
      | true => f x
      | false => False
    | _ => False
  | .str, v, f => match v with
    | .string x => f x
    | _ => False
  | .ptr, v, f => match v with
    | .pointer x => f x
    | _ => False
  | .addr, v, f => match v with
    | .pointer (some x) => f x
    | _ => False
  | .slice, v, f => match v with
    | .slice a n m => f ⟨a, n, m⟩
    | _ => False
  | .map, v, f => match v with
    | .map x => f x
    | _ => False
  | .any, v, f => f v
  | .noerr, v, f => match v with
    | .nilIface => f ()
    | _ => False
theorem castP_out {l : Leaf} {v : Value} {f : l.T → Prop} (h : castP l v f) : ∃ x, v = l.mk x ∧ f x := by
  cases l
  case int k =>
    cases v <;> first | exact h.elim | skip
    rename_i k' x
    simp only [castP] at h
    cases hs : sameK k k' <;> simp only [hs] at h
    have := sameK_spec hs; subst this
    exact ⟨x, rfl, h⟩
  case addr =>
    cases v <;> first | exact h.elim | skip
    rename_i p
    cases p <;> first | exact h.elim | skip
    exact ⟨_, rfl, h⟩
  case any => exact ⟨v, rfl, h⟩
  case noerr => cases v <;> first | exact h.elim | exact ⟨(), rfl, h⟩
  all_goals (cases v <;> first | exact h.elim | exact ⟨_, rfl, h⟩)
/-- What the slots hold meets the relation. -/
def fwd : (st : List (Nat × Leaf)) → Cur Prop st → Env → World → Prop
  | [], I, _, w => I w
  | (s, l) :: r, I, e, w => match get e s with
    | some v => castP l v.1 fun x => fwd r (I x) e w
    | none => False
/-- .. and the measure is below m. -/
def back : (st : List (Nat × Leaf)) → Cur Prop st → Cur Nat st → Env → World → Nat → Prop
  | [], I, M, _, w, m => I w ∧ M w < m
  | (s, l) :: r, I, M, e, w, m => match get e s with
    | some v => castP l v.1 fun x => back r (I x) (M x) e w m
    | none => False
/-- For all values of the slots. -/
def headJ : (st : List (Nat × Leaf)) → Cur Prop st → (Env → (World → Prop) → Prop) → Prop
  | [], I, f => f [] I
  | (s, l) :: r, I, f => ∀ x : l.T, headJ r (I x) (fun e pre => f ((s, (l.mk x, l.flag)) :: e) pre)
def headL : (st : List (Nat × Leaf)) → Cur Prop st → Cur Nat st → (Env → (World → Prop) → (World → Nat) → Prop) → Prop
  | [], I, M, f => f [] I M
  | (s, l) :: r, I, M, f => ∀ x : l.T, headL r (I x) (M x) (fun e pre m => f ((s, (l.mk x, l.flag)) :: e) pre m)
def app : Env → Env → Env
  | [], e => e
  | p :: r, e => p :: app r e

section
variable (P : Program) (ty : Nat → Sh) (N : Nat) (ann : Ann)

def W : Code → Env → World → (Ex → Env → World → Prop) → Prop
  | .skip, e, w, K => K .n e w
  | .region id ops draw, e, w, K => match draw with
    | false => wOps P ty N .full ops.toList ops.toList e w (K .n)
    | true => match look ann.draw id with
      | some .raw => ∀ (D : List Deferred) a, Sub D N e a → (Code.region id ops true).wp P (fun x a' w' => ∃ x' e', x = Ex.exit x' ∧ Ext (dsts ops.toList) e e' ∧ Sub D N e' a' ∧ K x' e' w') a w
      | some (.held l) => match Region.noSelect ops with
        | false => False
        | true => match Nat.beq l.length ops.size with
          | false => False
          | true => ∀ w1, Drew w w1 → ∃ S : World → Prop, S w1 ∧ wHeld P ty N ops S l (Array.replicate ops.size false) e w1 (K .n)
      | some (.heldS l) => match Region.noSelect ops with
        | false => False
        | true => match Nat.beq l.length ops.size with
          | false => False
          | true => ∀ w1, Drew w w1 → ∃ S : World → Prop, S w1 ∧ wHeldS P ty N ops S l (Array.replicate ops.size false) e w1 (K .n)
      | some (.swap H l) => match Region.noSelect ops with
        | false => False
        | true => match Nat.beq l.length ops.size with
          | false => False
          | true => ∀ w1, Drew w w1 → ∃ S : World → Prop, S w1 ∧ wHeldC P ty N ops S H l true (Array.replicate ops.size false) e w1 (K .n)
      | some (.tree t) => match Region.noSelect ops with
        | false => False
        | true => ∀ w1, Drew w w1 → ∃ S : World → Prop, S w1 ∧ wTree P ty N ops S t none ops.size (Array.replicate ops.size false) e w1 (K .n)
      | some (.tail n) => match Region.lexTailB .any ops n with
        | true => ∀ w1, Drew w w1 → wOps P ty N .still ops.toList (ops.toList.take n) e w1 fun e' w' => wOps P ty N .full ops.toList (ops.toList.drop n) e' w' (K .n)
        | false => False
      | _ => match Region.lexB .any ops with
        | true => wOps P ty N .quiet ops.toList ops.toList e w fun e' _ => ∀ w1, Drew w w1 → K .n e' w1
        | false => False
  | .seq a b, e, w, K => match firstReg b with
    | none => W a e w fun x e' w' => match x with
      | .n => W b e' w' K
      | x => K x e' w'
    | some id => match look ann.join id with
      | none => W a e w fun x e' w' => match x with
        | .n => W b e' w' K
        | x => K x e' w'
      | some st => match inside st (writes a) with
        | false => False
        | true => ∃ J : Cur Prop st, (W a e w fun x e' w' => match x with
          | .n => fwd st J e' w'
          | x => K x e' w') ∧ headJ st J fun s pre => ∀ w', pre w' → W b (app s (dropW (writes a) e)) w' K
  | .cond c a b, e, w, K => match ev e c with
    | some (v, true) => match v with
      | .bool true => W a e w K
      | .bool false => W b e w K
      | _ => False
    | some (v, false) => match v with
      | .bool x => (x = true → W a e w K) ∧ (x = false → W b e w K)
      | _ => False
    | none => False
  | .block id c, e, w, K => W c e w fun x e' w' => match x with
    | .x i => match Nat.beq i id with
      | true => K .n e' w'
      | false => K (.x i) e' w'
    | x => K x e' w'
  | .loop c, e, w, K => match firstReg c with
    | none => False
    | some id => match look ann.loop id with
      | none => False
      | some st => match inside st (writes c) with
        | false => False
        | true => ∃ (I : Cur Prop st) (M : Cur Nat st), fwd st I e w ∧ headL st I M fun s pre m => ∀ w', pre w' → W c (app s (dropW (writes c) e)) w' fun x e' w'' => match x with
        | .n => back st I M e' w'' (m w')
        | x => K x e' w''
  | .exit id, e, w, K => K (.x id) e w
  | .scope c, e, w, K => W c e w fun x e' w' => match x with
    | .g _ => False
    | x => K x e' w'
  | .label _, e, w, K => K .n e w
  | .goto l, e, w, K => K (.g l) e w
  | .ret, e, w, K => K .r e w
  | _, _, _, _ => False
end

/-! ### That it is enough -/
/-- A loop, by a relation that carries its measure. -/
theorem wp_loop_rel {P : Program} {Q : Exit → Act → World → Prop} {a : Act} {w : World} {c : Code} (I : Nat → Act → World → Prop) {n₀ : Nat} (h₀ : I n₀ a w)
    (round : ∀ n a w, I n a w → c.wp P (Exit.then (fun a' w' => ∃ n', n' < n ∧ I n' a' w') Q) a w) : (Code.loop c).wp P Q a w := by
  intro b k cs
  have key : ∀ n a w, I n a w → ∃ e a' w', Q e a' w' ∧ Arrives P (lone (b.at a (.code c :: .inLoop c :: k)) cs w) b k cs e a' w' := by
    intro n
    induction n using Nat.strongRecOn with
    | _ n ih =>
      intro a w hI
      obtain ⟨e, a₁, w₁, hq, harr⟩ := round n a w hI b (.inLoop c :: k) cs
      cases e with
      | normal =>
        obtain ⟨n', hlt, hI₁⟩ := hq
        obtain ⟨e₂, a₂, w₂, hq₂, harr₂⟩ := ih n' hlt a₁ w₁ hI₁
        exact ⟨e₂, a₂, w₂, hq₂, .of_steps (Steps.trans harr (.one step_inLoop)) harr₂⟩
      | exit id => exact ⟨_, a₁, w₁, hq, .pass (x := .inLoop c) rfl (fun _ _ => .inl (by simp)) harr⟩
      | goto l => exact ⟨_, a₁, w₁, hq, .pass (x := .inLoop c) rfl (fun _ _ => .inl (by simp)) harr⟩
      | ret => exact ⟨_, a₁, w₁, hq, .pass (x := .inLoop c) rfl (fun _ _ => .inl (by simp)) harr⟩
      | panic ch => exact ⟨_, a₁, w₁, hq, .pass (x := .inLoop c) rfl (fun _ _ => .inl (by simp)) harr⟩
      | outgrown => exact ⟨_, a₁, w₁, hq, .pass (x := .inLoop c) rfl (fun _ _ => .inl (by simp)) harr⟩
  obtain ⟨e, a', w', hq, harr⟩ := key _ a w h₀
  exact ⟨e, a', w', hq, .of_steps (.one step_loop) harr⟩

/-- What the slots of a relation hold, out of an environment. -/
def Holds (s e : Env) : Prop := ∀ t v, get s t = some v → ∃ b, get e t = some (v.1, b)
theorem fwd_head {e : Env} {w : World} : ∀ {st : List (Nat × Leaf)} {J : Cur Prop st} {f : Env → (World → Prop) → Prop}, fwd st J e w → headJ st J f → ∃ s pre, f s pre ∧ pre w ∧ Holds s e
  | [], J, f, h, hf => ⟨[], J, hf, h, fun _ _ h => by cases h⟩
  | (k, l) :: r, J, f, h, hf => by
    simp only [fwd] at h
    split at h
    · rename_i v hv
      obtain ⟨x, hx, h⟩ := castP_out h
      obtain ⟨s, pre, h1, h2, h3⟩ := fwd_head h (hf x)
      refine ⟨(k, (l.mk x, l.flag)) :: s, pre, h1, h2, fun t u hu => ?_⟩
      rw [get_cons] at hu
      by_cases hkt : k = t
      · subst hkt
        simp only [if_true, Option.some.injEq] at hu
        subst hu
        exact ⟨v.2, by rw [hv, ← hx]⟩
      · rw [if_neg hkt] at hu; exact h3 t u hu
    · exact h.elim
theorem fwd_headL {e : Env} {w : World} : ∀ {st : List (Nat × Leaf)} {J : Cur Prop st} {M : Cur Nat st} {f : Env → (World → Prop) → (World → Nat) → Prop}, fwd st J e w → headL st J M f → ∃ s pre m, f s pre m ∧ pre w ∧ Holds s e
  | [], J, M, f, h, hf => ⟨[], J, M, hf, h, fun _ _ h => by cases h⟩
  | (k, l) :: r, J, M, f, h, hf => by
    simp only [fwd] at h
    split at h
    · rename_i v hv
      obtain ⟨x, hx, h⟩ := castP_out h
      obtain ⟨s, pre, m, h1, h2, h3⟩ := fwd_headL h (hf x)
      refine ⟨(k, (l.mk x, l.flag)) :: s, pre, m, h1, h2, fun t u hu => ?_⟩
      rw [get_cons] at hu
      by_cases hkt : k = t
      · subst hkt
        simp only [if_true, Option.some.injEq] at hu
        subst hu
        exact ⟨v.2, by rw [hv, ← hx]⟩
      · rw [if_neg hkt] at hu; exact h3 t u hu
    · exact h.elim
theorem back_headL {e : Env} {w : World} {m0 : Nat} : ∀ {st : List (Nat × Leaf)} {J : Cur Prop st} {M : Cur Nat st} {f : Env → (World → Prop) → (World → Nat) → Prop}, back st J M e w m0 → headL st J M f → ∃ s pre m, f s pre m ∧ pre w ∧ m w < m0 ∧ Holds s e
  | [], J, M, f, h, hf => ⟨[], J, M, hf, h.1, h.2, fun _ _ h => by cases h⟩
  | (k, l) :: r, J, M, f, h, hf => by
    simp only [back] at h
    split at h
    · rename_i v hv
      obtain ⟨x, hx, h⟩ := castP_out h
      obtain ⟨s, pre, m, h1, h2, h4, h3⟩ := back_headL h (hf x)
      refine ⟨(k, (l.mk x, l.flag)) :: s, pre, m, h1, h2, h4, fun t u hu => ?_⟩
      rw [get_cons] at hu
      by_cases hkt : k = t
      · subst hkt
        simp only [if_true, Option.some.injEq] at hu
        subst hu
        exact ⟨v.2, by rw [hv, ← hx]⟩
      · rw [if_neg hkt] at hu; exact h3 t u hu
    · exact h.elim
theorem get_app : ∀ (s e : Env) (t : Nat), get (app s e) t = match get s t with
    | some v => some v
    | none => get e t
  | [], e, t => rfl
  | (k, v) :: s, e, t => by
    simp only [app]
    rw [get_cons, get_cons]
    by_cases h : k = t
    · simp [h]
    · simp only [if_neg h]; exact get_app s e t
/-- Behind a piece of code the slots that it does not write, and those of the relation. -/
theorem sub_app {N : Nat} {wr : List Nat} {s e e' : Env} {a : Act} (hx : Ext wr e e') (hs : Sub D N e' a) (hh : Holds s e') : Sub D N (app s (dropW wr e)) a := by
  refine ⟨hs.size, hs.defers, fun t v hv => ?_⟩
  rw [get_app] at hv
  cases hg : get s t with
  | some u =>
    simp only [hg, Option.some.injEq] at hv
    subst hv
    obtain ⟨b, hb⟩ := hh t u hg
    exact hs.at_ t (u.1, b) hb
  | none =>
    simp only [hg] at hv
    obtain ⟨h1, h2⟩ := get_dropW wr e t v hv
    obtain ⟨b, hb⟩ := hx t v h1 h2
    exact hs.at_ t (v.1, b) hb
def Slots (st : List (Nat × Leaf)) (s : Env) : Prop := ∀ t, (∃ v, get s t = some v) → ∃ l, (t, l) ∈ st
theorem headJ_slots : ∀ {st : List (Nat × Leaf)} {J : Cur Prop st} {f : Env → (World → Prop) → Prop}, headJ st J f → headJ st J fun s pre => f s pre ∧ Slots st s
  | [], _, _, h => ⟨h, fun _ ⟨_, hv⟩ => by cases hv⟩
  | (k, l) :: r, J, f, h => fun x => by
    refine headJ_mono (headJ_slots (h x)) fun s pre ⟨h1, h2⟩ => ⟨h1, fun t ⟨v, hv⟩ => ?_⟩
    rw [get_cons] at hv
    by_cases hkt : k = t
    · subst hkt; exact ⟨l, by simp⟩
    · rw [if_neg hkt] at hv
      obtain ⟨l', hl⟩ := h2 t ⟨v, hv⟩
      exact ⟨l', by simp [hl]⟩
where headJ_mono : ∀ {st : List (Nat × Leaf)} {J : Cur Prop st} {f g : Env → (World → Prop) → Prop}, headJ st J f → (∀ s pre, f s pre → g s pre) → headJ st J g
  | [], _, _, _, h, hg => hg _ _ h
  | (_, _) :: _, _, _, _, h, hg => fun x => headJ_mono (h x) fun s pre => hg _ _
theorem headL_slots : ∀ {st : List (Nat × Leaf)} {J : Cur Prop st} {M : Cur Nat st} {f : Env → (World → Prop) → (World → Nat) → Prop}, headL st J M f → headL st J M fun s pre m => f s pre m ∧ Slots st s
  | [], _, _, _, h => ⟨h, fun _ ⟨_, hv⟩ => by cases hv⟩
  | (k, l) :: r, J, M, f, h => fun x => by
    refine headL_mono (headL_slots (h x)) fun s pre m ⟨h1, h2⟩ => ⟨h1, fun t ⟨v, hv⟩ => ?_⟩
    rw [get_cons] at hv
    by_cases hkt : k = t
    · subst hkt; exact ⟨l, by simp⟩
    · rw [if_neg hkt] at hv
      obtain ⟨l', hl⟩ := h2 t ⟨v, hv⟩
      exact ⟨l', by simp [hl]⟩
where headL_mono : ∀ {st : List (Nat × Leaf)} {J : Cur Prop st} {M : Cur Nat st} {f g : Env → (World → Prop) → (World → Nat) → Prop}, headL st J M f → (∀ s pre m, f s pre m → g s pre m) → headL st J M g
  | [], _, _, _, _, h, hg => hg _ _ _ h
  | (_, _) :: _, _, _, _, _, h, hg => fun x => headL_mono (h x) fun s pre m => hg _ _ _
theorem inside_spec {wr : List Nat} : ∀ {st : List (Nat × Leaf)}, inside st wr = true → ∀ t l, (t, l) ∈ st → memN t wr = true
  | (s, _) :: r, h, t, l, hm => by
    simp only [inside] at h
    cases hb : memN s wr with
    | false => simp [hb] at h
    | true =>
      simp only [hb] at h
      cases hm with
      | head => exact hb
      | tail _ hm => exact inside_spec h t l hm
theorem ext_app {wr : List Nat} {st : List (Nat × Leaf)} {s e : Env} (hi : inside st wr = true) (hs : Slots st s) : Ext wr e (app s (dropW wr e)) := fun t v hm hg => by
  rw [get_app]
  cases hst : get s t with
  | some u =>
    obtain ⟨l, hl⟩ := hs t ⟨u, hst⟩
    have := inside_spec hi t l hl
    rw [hm] at this; cases this
  | none =>
    refine ⟨v.2, ?_⟩
    simp only
    clear hst hs hi
    induction e with
    | nil => cases hg
    | cons p r ih =>
      obtain ⟨k, u⟩ := p
      rw [get_cons] at hg
      simp only [dropW]
      by_cases hkt : k = t
      · subst hkt
        simp only [if_true, Option.some.injEq] at hg
        subst hg
        simp only [hm]
        rw [get_cons]; simp
      · rw [if_neg hkt] at hg
        cases hmk : memN k wr with
        | true => exact ih hg
        | false => simp only; rw [get_cons, if_neg hkt]; exact ih hg

theorem dsts_mem {ops : Array Oper} {i : Nat} {o : Oper} {d : Nat} (ho : ops[i]? = some o) (hd : o.dst = some d) : d ∈ dsts ops.toList := by
  have hm : o ∈ ops.toList := by
    rw [← Array.getElem?_toList] at ho
    exact List.mem_of_getElem? ho
  generalize ops.toList = l at hm
  induction l with
  | nil => cases hm
  | cons x r ih =>
    simp only [dsts]
    cases hm with
    | head => rw [hd]; simp
    | tail _ hm =>
      have := ih hm
      cases x.dst <;> simp [this]
theorem noPan_imp {Q : Exit → Act → World → Prop} : ∀ (e : Exit) (a : Act) (w : World), noPan Q e a w → Q e a w := fun e a w h => by
  cases e <;> first | exact h | exact (h : False).elim
theorem W_sound {P : Program} {ty : Nat → Sh} {N : Nat} {ann : Ann} (hm : P.follows .mixedOrders = true) : ∀ (c : Code) (e : Env) (w : World) (K : Ex → Env → World → Prop), W P ty N ann c e w K →
    ∀ (a : Act) (Q : Exit → Act → World → Prop), Sub D N e a → (∀ x e' w' a', K x e' w' → Ext (writes c) e e' → Sub D N e' a' → Q x.exit a' w') → c.wp P Q a w
  | .skip, e, w, K, h, a, Q, hs, hk => wp_skip (hk .n _ _ _ h (.refl _ _) hs)
  | .region id ops draw, e, w, K, h, a, Q, hs, hk => by
    simp only [W] at h
    split at h
    · exact wp_region_list (by
        have := wOps_sound (Q := Q) _ _ a _ _ h hs fun e' w' a' h1 h2 h3 => hk .n _ _ _ h1 h2 h3
        simpa using this)
    · split at h
      · exact Code.wp_mono (fun x a' w' ⟨x', e', hx, h1, h2, h3⟩ => by subst hx; exact hk _ _ _ _ h3 h1 h2) (h D a hs)
      · rename_i l _
        split at h
        · exact h.elim
        rename_i hsel
        split at h
        · exact h.elim
        rename_i hlen
        have hlen := Nat.eq_of_beq_eq_true hlen
        obtain ⟨S, hS, h⟩ := h w.drew ⟨1, rfl⟩
        refine Code.wp_mono noPan_imp (wp_region_any hm (any_of_anyS (S := S) _ _ _ _ ?_))
        have key := wHeld_sound (Q := Q) hsel l _ _ a _ _ (writes (Code.region id ops true)) (fun i b _ o ho d hd => memN_spec.2 (dsts_mem ho hd)) h
          ⟨by simp, fun j oj _ hl => (by rw [getD_replicate_false] at hl; cases hl), fun t _ ht => getD_in (by simpa using ht) (getD_replicate_false _ _)⟩
          hs (.inl hS) fun e' w' a' h1 h2 h3 => hk .n _ _ _ h1 h2 h3
        rw [hlen] at key
        exact key
      · rename_i l _
        split at h
        · exact h.elim
        rename_i hsel
        split at h
        · exact h.elim
        rename_i hlen
        have hlen := Nat.eq_of_beq_eq_true hlen
        obtain ⟨S, hS, h⟩ := h w.drew ⟨1, rfl⟩
        refine Code.wp_mono noPan_imp (wp_region_any hm (any_of_anyS (S := S) _ _ _ _ ?_))
        have key := wHeldS_sound (Q := Q) hsel S l _ _ a _ _ (writes (Code.region id ops true)) (fun i b _ o ho d hd => memN_spec.2 (dsts_mem ho hd)) h
          ⟨by simp, fun j oj _ hl => (by rw [getD_replicate_false] at hl; cases hl), fun t _ ht => getD_in (by simpa using ht) (getD_replicate_false _ _)⟩
          hs (.inl hS) fun e' w' a' h1 h2 h3 => hk .n _ _ _ h1 h2 h3
        rw [hlen] at key
        exact key
      · rename_i H l _
        split at h
        · exact h.elim
        rename_i hsel
        split at h
        · exact h.elim
        rename_i hlen
        have hlen := Nat.eq_of_beq_eq_true hlen
        obtain ⟨S, hS, h⟩ := h w.drew ⟨1, rfl⟩
        refine Code.wp_mono noPan_imp (wp_region_any hm (any_of_anyC (S := S) (H := H) _ true _ _ _ ?_))
        have key := wHeldC_sound (Q := Q) hsel l true _ _ a _ _ (writes (Code.region id ops true)) (fun i b _ o ho d hd => memN_spec.2 (dsts_mem ho hd)) h
          ⟨by simp, fun j oj _ hl => (by rw [getD_replicate_false] at hl; cases hl), fun t _ ht => getD_in (by simpa using ht) (getD_replicate_false _ _)⟩
          hs (fun _ => hS) fun e' w' a' h1 h2 h3 => hk .n _ _ _ h1 h2 h3
        rw [hlen] at key
        exact key
      · rename_i t _
        split at h
        · exact h.elim
        rename_i hsel
        obtain ⟨S, hS, h⟩ := h w.drew ⟨1, rfl⟩
        refine Code.wp_mono noPan_imp (wp_region_any hm (any_of_anyS (S := S) _ _ _ _ ?_))
        exact wTree_sound (Q := Q) hsel (writes (Code.region id ops true)) (fun i o ho d hd => memN_spec.2 (dsts_mem ho hd)) t none ops.size _ _ a _ _ h
          ⟨by simp, fun j oj _ hl => (by rw [getD_replicate_false] at hl; cases hl), fun t _ ht => getD_in (by simpa using ht) (getD_replicate_false _ _)⟩
          hs (.inl hS) fun e' w' a' h1 h2 h3 => hk .n _ _ _ h1 h2 h3
      · rename_i n _
        cases hB : Region.lexTailB .any ops n with
        | false => simp [hB] at h
        | true =>
          simp only [hB] at h
          have hops : ops = ops.toList.toArray := by simp
          rw [hops]
          refine wp_region_still_tail n hm (by rw [← hops]; exact hB) ?_
          have := wOps_still (Q := fun a' => wpList P ops.toList.toArray Q (ops.toList.drop n) a' w.drew) _ _ a _ (h _ ⟨1, rfl⟩) hs fun e' a' h1 h2 h3 =>
            wOps_sound (Q := Q) _ _ a' _ _ h1 h3 fun e'' w'' a'' k1 k2 k3 => hk .n _ _ _ k1 ((h2.trans k2).mono fun t ht => by
              rw [← dsts_app, List.take_append_drop]; exact ht) k3
          exact this
      · cases hB : Region.lexB .any ops with
        | false => simp [hB] at h
        | true =>
          simp only [hB] at h
          have hops : ops = ops.toList.toArray := by simp
          rw [hops]
          refine wp_region_quiet_lit hm (by rw [← hops]; exact hB) ?_
          exact wOps_quiet _ _ a _ h hs fun e' a' h1 h2 h3 w' ⟨n, hw'⟩ => by
            subst hw'; exact hk .n _ _ _ (h1 _ ⟨n, rfl⟩) h2 h3
  | .seq x y, e, w, K, h, a, Q, hs, hk => by
    have plain : (W P ty N ann x e w fun x e' w' => match x with
        | .n => W P ty N ann y e' w' K
        | x => K x e' w') → (Code.seq x y).wp P Q a w := fun h => by
      refine wp_seq (W_sound hm x e w _ h a _ hs fun x e' w' a' h1 h2 h3 => ?_)
      cases x with
      | n => exact W_sound hm y e' w' K h1 a' Q h3 fun x2 e2 w2 a2 k1 k2 k3 => hk _ _ _ _ k1 (h2.trans k2) k3
      | x i => exact hk (.x i) _ _ _ h1 (h2.mono fun t ht => (memN_app ht).1) h3
      | g i => exact hk (.g i) _ _ _ h1 (h2.mono fun t ht => (memN_app ht).1) h3
      | r => exact hk .r _ _ _ h1 (h2.mono fun t ht => (memN_app ht).1) h3
    simp only [W] at h
    split at h
    · exact plain h
    · split at h
      · exact plain h
      · rename_i st _
        split at h
        · exact h.elim
        rename_i hin
        obtain ⟨J, h1, h2⟩ := h
        refine wp_seq (W_sound hm x e w _ h1 a _ hs fun x e' w' a' g1 g2 g3 => ?_)
        cases x with
        | n =>
          obtain ⟨s, pre, ⟨hf, hsl⟩, hp, hh⟩ := fwd_head g1 (headJ_slots h2)
          have hx := ext_app (e := e) hin hsl
          exact W_sound hm y _ w' K (hf w' hp) a' Q (sub_app g2 g3 hh) fun x2 e2 w2 a2 k1 k2 k3 => hk _ _ _ _ k1 (hx.trans k2) k3
        | x i => exact hk (.x i) _ _ _ g1 (g2.mono fun t ht => (memN_app ht).1) g3
        | g i => exact hk (.g i) _ _ _ g1 (g2.mono fun t ht => (memN_app ht).1) g3
        | r => exact hk .r _ _ _ g1 (g2.mono fun t ht => (memN_app ht).1) g3
  | .cond c x y, e, w, K, h, a, Q, hs, hk => by
    have hx : W P ty N ann x e w K → x.wp P Q a w := fun h => W_sound hm x e w K h a Q hs fun x2 e2 w2 a2 k1 k2 k3 => hk _ _ _ _ k1 (k2.mono fun t ht => (memN_app ht).1) k3
    have hy : W P ty N ann y e w K → y.wp P Q a w := fun h => W_sound hm y e w K h a Q hs fun x2 e2 w2 a2 k1 k2 k3 => hk _ _ _ _ k1 (k2.mono fun t ht => (memN_app ht).2) k3
    simp only [W] at h
    split at h
    · rename_i v hv
      have hc := hs.ev hv
      split at h
      · exact wp_cond_true hc (hx h)
      · exact wp_cond_false hc (hy h)
      · exact h.elim
    · rename_i v hv
      have hc := hs.ev hv
      split at h
      · exact wp_cond_split hc (fun ht => hx (h.1 ht)) (fun hf => hy (h.2 hf))
      · exact h.elim
    · exact h.elim
  | .block id c, e, w, K, h, a, Q, hs, hk => by
    refine wp_block (W_sound hm c e w _ h a _ hs fun x e' w' a' g1 g2 g3 => ?_)
    cases x with
    | n => exact hk .n _ _ _ g1 g2 g3
    | x i =>
      simp only [Ex.exit, Exit.inBlock]
      simp only at g1
      cases hb : Nat.beq i id with
      | true =>
        simp only [hb] at g1
        rw [if_pos (Nat.eq_of_beq_eq_true hb)]
        exact hk .n _ _ _ g1 g2 g3
      | false =>
        simp only [hb] at g1
        rw [if_neg (fun he => by subst he; simp at hb)]
        exact hk (.x i) _ _ _ g1 g2 g3
    | g i => exact hk (.g i) _ _ _ g1 g2 g3
    | r => exact hk .r _ _ _ g1 g2 g3
  | .loop c, e, w, K, h, a, Q, hs, hk => by
    simp only [W] at h
    split at h
    · exact h.elim
    split at h
    · exact h.elim
    rename_i st _
    split at h
    · exact h.elim
    rename_i hin
    obtain ⟨I, M, h1, h2⟩ := h
    have h2 := headL_slots h2
    obtain ⟨s, pre, m, ⟨hf, hsl⟩, hp, hh⟩ := fwd_headL h1 h2
    refine wp_loop_rel (fun n a w => ∃ (s : Env) (pre : World → Prop) (m : World → Nat), ((∀ w', pre w' → W P ty N ann c (app s (dropW (writes c) e)) w' fun x e' w'' => match x with
        | .n => back st I M e' w'' (m w')
        | x => K x e' w'') ∧ Slots st s) ∧ pre w ∧ n = m w ∧ Sub D N (app s (dropW (writes c) e)) a) ⟨s, pre, m, ⟨hf, hsl⟩, hp, rfl, sub_app (.refl _ _) hs hh⟩ ?_
    rintro n a w ⟨s, pre, m, ⟨hf, hsl⟩, hp, rfl, hs⟩
    have hx := ext_app (e := e) hin hsl
    refine W_sound hm c _ w _ (hf w hp) a _ hs fun x e' w' a' g1 g2 g3 => ?_
    cases x with
    | n =>
      obtain ⟨s', pre', m', ⟨hf', hsl'⟩, hp', hlt, hh'⟩ := back_headL g1 h2
      exact ⟨m' w', hlt, s', pre', m', ⟨hf', hsl'⟩, hp', rfl, sub_app (hx.trans' g2) g3 hh'⟩
    | x i => exact hk (.x i) _ _ _ g1 (hx.trans' g2) g3
    | g i => exact hk (.g i) _ _ _ g1 (hx.trans' g2) g3
    | r => exact hk .r _ _ _ g1 (hx.trans' g2) g3
  | .exit id, e, w, K, h, a, Q, hs, hk => wp_exit (hk (.x id) _ _ _ h (.refl _ _) hs)
  | .scope c, e, w, K, h, a, Q, hs, hk => by
    refine wp_scope_straight (W_sound hm c e w _ h a _ hs fun x e' w' a' g1 g2 g3 => ?_)
    cases x with
    | n => exact hk .n _ _ _ g1 g2 g3
    | x i => exact hk (.x i) _ _ _ g1 g2 g3
    | g i => exact g1.elim
    | r => exact hk .r _ _ _ g1 g2 g3
  | .label l, e, w, K, h, a, Q, hs, hk => wp_label (hk .n _ _ _ h (.refl _ _) hs)
  | .goto l, e, w, K, h, a, Q, hs, hk => wp_goto (hk (.g l) _ _ _ h (.refl _ _) hs)
  | .ret, e, w, K, h, a, Q, hs, hk => wp_ret (hk .r _ _ _ h (.refl _ _) hs)
  | .rangeFunc .., _, _, _, h, _, _, _, _ => by simp only [W] at h
  | .refuse .., _, _, _, h, _, _, _, _ => by simp only [W] at h

/-! ### Functions -/
/-! ### Labels: the outermost scope of a function -/
/-- A label's relation and measure. -/
structure LabR where
  st : List (Nat × Leaf)
  I : Cur Prop st
  M : Cur Nat st
def exLab : List (Nat × List (Nat × Leaf)) → (List (Nat × LabR) → Prop) → Prop
  | [], f => f []
  | (l, st) :: r, f => ∃ (I : Cur Prop st) (M : Cur Nat st), exLab r fun rs => f ((l, ⟨st, I, M⟩) :: rs)
theorem exLab_out : ∀ {ls : List (Nat × List (Nat × Leaf))} {f : List (Nat × LabR) → Prop}, exLab ls f → ∃ rs, f rs
  | [], _, h => ⟨[], h⟩
  | _ :: _, _, ⟨_, _, h⟩ => let ⟨_, h⟩ := exLab_out h; ⟨_, h⟩
section
variable (P : Program) (ty : Nat → Sh) (N : Nat) (ann : Ann)
def labsOk (c : Code) (e : Env) (rs : List (Nat × LabR)) (K : Ex → Env → World → Prop) : List (Nat × LabR) → Prop
  | [] => True
  | (l, r) :: rest => match inside r.st (writes c) with
    | false => False
    | true => match findLabel c l with
      | none => False
      | some d => (headL r.st r.I r.M fun s pre m => ∀ w', pre w' → W P ty N ann d (app s (dropW (writes c) e)) w' fun x e' w'' => match x with
          | .g l' => match look rs l' with
            | some r' => back r'.st r'.I r'.M e' w'' (m w')
            | none => False
          | x => K x e' w'') ∧ labsOk c e rs K rest
/-- The outermost scope: its labels have relations. -/
def WSc (c : Code) (e : Env) (w : World) (K : Ex → Env → World → Prop) : Prop := match ann.labs with
  | [] => W P ty N ann (.scope c) e w K
  | _ => exLab ann.labs fun rs => (W P ty N ann c e w fun x e' w' => match x with
      | .g l => match look rs l with
        | some r => fwd r.st r.I e' w'
        | none => False
      | x => K x e' w') ∧ labsOk P ty N ann c e rs K rs
def endsSc : Code → Bool
  | .scope _ => true
  | .seq _ b => endsSc b
  | _ => false
/-- A function's body. -/
def WS : Code → Env → World → (Ex → Env → World → Prop) → Prop
  | .scope c, e, w, K => WSc P ty N ann c e w K
  | .seq a b, e, w, K => match endsSc b with
    | true => W P ty N ann a e w fun x e' w' => match x with
      | .n => WS b e' w' K
      | x => K x e' w'
    | false => W P ty N ann (.seq a b) e w K
  | c, e, w, K => W P ty N ann c e w K
end
theorem look_mem {α : Type} : ∀ {rs : List (Nat × α)} {l : Nat} {r : α}, look rs l = some r → (l, r) ∈ rs
  | (k, v) :: rest, l, r, h => by
    simp only [look] at h
    cases hb : Nat.beq k l with
    | true =>
      simp only [hb, Option.some.injEq] at h
      have := Nat.eq_of_beq_eq_true hb
      subst this h; simp
    | false =>
      simp only [hb] at h
      exact List.mem_cons_of_mem _ (look_mem h)
/-- By a goto to label l: J l n, for some n; else as Q. -/
def jumpTo (J : Nat → Act → World → Prop) (Q : Exit → Act → World → Prop) : Exit → Act → World → Prop
  | .goto l, a, w => J l a w
  | e, a, w => Q e a w
theorem wp_scope_labels {P : Program} {a : Act} {w : World} {Q : Exit → Act → World → Prop} {c : Code} (J : Nat → Nat → Act → World → Prop) (hf : ∀ l n a w, J l n a w → ∃ d, findLabel c l = some d)
    (first : c.wp P (jumpTo (fun l a w => ∃ n, J l n a w) Q) a w)
    (pass : ∀ l d n a w, findLabel c l = some d → J l n a w → d.wp P (jumpTo (fun l' a' w' => ∃ n', n' < n ∧ J l' n' a' w') Q) a w) : (Code.scope c).wp P Q a w := by
  intro b k cs
  have hg : ∀ l d, findLabel c l = some d → gotoIn l (.inScope c :: k) = some (.code d :: .inScope c :: k) := fun l d h => by simp [gotoIn, h]
  have key : ∀ n l d a w, findLabel c l = some d → J l n a w → ∃ e a' w', Q e a' w' ∧ Arrives P (lone (b.at a (.code d :: .inScope c :: k)) cs w) b k cs e a' w' := by
    intro n
    induction n using Nat.strongRecOn with
    | _ n ih =>
      intro l d a w hd hJ
      obtain ⟨e, a₁, w₁, hq, harr⟩ := pass l d n a w hd hJ b (.inScope c :: k) cs
      cases e with
      | normal => exact ⟨.normal, a₁, w₁, hq, Steps.trans harr (.one step_inScope)⟩
      | exit id => exact ⟨.exit id, a₁, w₁, hq, fun k' hk => harr k' (by simp [exitTo, hk])⟩
      | goto l' =>
        obtain ⟨n', hlt, hJ'⟩ := hq
        obtain ⟨d', hd'⟩ := hf _ _ _ _ hJ'
        obtain ⟨e₂, a₂, w₂, hq₂, harr₂⟩ := ih n' hlt l' d' a₁ w₁ hd' hJ'
        exact ⟨e₂, a₂, w₂, hq₂, .of_steps (harr _ (hg l' d' hd')) harr₂⟩
      | ret => exact ⟨_, a₁, w₁, hq, harr⟩
      | panic ch => exact ⟨_, a₁, w₁, hq, harr⟩
      | outgrown => exact ⟨_, a₁, w₁, hq, harr⟩
  obtain ⟨e, a₁, w₁, hq, harr⟩ := first b (.inScope c :: k) cs
  cases e with
  | normal => exact ⟨.normal, a₁, w₁, hq, .head step_scope (Steps.trans harr (.one step_inScope))⟩
  | exit id => exact ⟨.exit id, a₁, w₁, hq, fun k' hk => .head step_scope (harr k' (by simp [exitTo, hk]))⟩
  | goto l' =>
    obtain ⟨n', hJ'⟩ := hq
    obtain ⟨d', hd'⟩ := hf _ _ _ _ hJ'
    obtain ⟨e₂, a₂, w₂, hq₂, harr₂⟩ := key n' l' d' a₁ w₁ hd' hJ'
    exact ⟨e₂, a₂, w₂, hq₂, .of_steps (.head step_scope (harr _ (hg l' d' hd'))) harr₂⟩
  | ret => exact ⟨_, a₁, w₁, hq, .of_steps (.one step_scope) harr⟩
  | panic ch => exact ⟨_, a₁, w₁, hq, .of_steps (.one step_scope) harr⟩
  | outgrown => exact ⟨_, a₁, w₁, hq, .of_steps (.one step_scope) harr⟩
theorem labsOk_at {P : Program} {ty : Nat → Sh} {N : Nat} {ann : Ann} {c : Code} {e : Env} {rs : List (Nat × LabR)} {K : Ex → Env → World → Prop} : ∀ {l : List (Nat × LabR)}, labsOk P ty N ann c e rs K l → ∀ {k : Nat} {r : LabR}, (k, r) ∈ l →
    inside r.st (writes c) = true ∧ ∃ d, findLabel c k = some d ∧ headL r.st r.I r.M fun s pre m => ∀ w', pre w' → W P ty N ann d (app s (dropW (writes c) e)) w' fun x e' w'' => match x with
          | .g l' => match look rs l' with
            | some r' => back r'.st r'.I r'.M e' w'' (m w')
            | none => False
          | x => K x e' w''
  | (l, r') :: rest, h, k, r, hm => by
    simp only [labsOk] at h
    split at h
    · exact h.elim
    rename_i hi
    split at h
    · exact h.elim
    rename_i d hd
    rcases List.mem_cons.1 hm with heq | hm
    · cases heq
      exact ⟨hi, d, hd, h.1⟩
    · exact labsOk_at h.2 hm
theorem writes_label : ∀ {c : Code} {l : Nat} {d : Code}, findLabel c l = some d → ∀ t, memN t (writes c) = false → memN t (writes d) = false
  | .seq a b, l, d, h, t, ht => by
    simp only [findLabel] at h
    obtain ⟨h1, h2⟩ := memN_app ht
    cases hb : findLabel a l with
    | some rest =>
      simp only [hb, Option.some.injEq] at h
      subst h
      have ih := writes_label hb t h1
      cases hm : memN t (writes (.seq rest b)) with
      | false => rfl
      | true =>
        have := memN_spec.1 hm
        rcases List.mem_append.1 this with h3 | h3
        · rw [memN_spec.2 h3] at ih; cases ih
        · rw [memN_spec.2 h3] at h2; cases h2
    | none =>
      simp only [hb] at h
      exact writes_label h t h2
  | .label l', l, d, h, t, ht => by
    simp only [findLabel] at h
    split at h
    · cases h; rfl
    · cases h
  | .skip, _, _, h, _, _ => by cases h
  | .region .., _, _, h, _, _ => by cases h
  | .cond .., _, _, h, _, _ => by cases h
  | .block .., _, _, h, _, _ => by cases h
  | .loop .., _, _, h, _, _ => by cases h
  | .scope .., _, _, h, _, _ => by cases h
  | .exit .., _, _, h, _, _ => by cases h
  | .goto .., _, _, h, _, _ => by cases h
  | .ret, _, _, h, _, _ => by cases h
  | .rangeFunc .., _, _, h, _, _ => by cases h
  | .refuse .., _, _, h, _, _ => by cases h
theorem WSc_sound {P : Program} {ty : Nat → Sh} {N : Nat} {ann : Ann} (hm : P.follows .mixedOrders = true) (c : Code) (e : Env) (w : World) (K : Ex → Env → World → Prop) (h : WSc P ty N ann c e w K)
    (a : Act) (Q : Exit → Act → World → Prop) (hs : Sub D N e a) (hk : ∀ x e' w' a', K x e' w' → Ext (writes c) e e' → Sub D N e' a' → Q x.exit a' w') : (Code.scope c).wp P Q a w := by
  unfold WSc at h
  · split at h
    · exact W_sound hm _ e w K h a Q hs hk
    · obtain ⟨rs, h1, h2⟩ := exLab_out h
      -- what holds at a label
      let J : Nat → Nat → Act → World → Prop := fun l n a w => ∃ (r : LabR) (s : Env) (pre : World → Prop) (m : World → Nat), (l, r) ∈ rs ∧ Slots r.st s ∧ pre w ∧ m w = n ∧ Sub D N (app s (dropW (writes c) e)) a ∧
        ∃ d, findLabel c l = some d ∧ ∀ w', pre w' → W P ty N ann d (app s (dropW (writes c) e)) w' fun x e' w'' => match x with
          | .g l' => match look rs l' with
            | some r' => back r'.st r'.I r'.M e' w'' (m w')
            | none => False
          | x => K x e' w''
      refine wp_scope_labels J (fun l n a w ⟨_, _, _, _, _, _, _, _, _, d, hd, _⟩ => ⟨d, hd⟩) ?_ ?_
      · refine W_sound hm c e w _ h1 a _ hs fun x e' w' a' g1 g2 g3 => ?_
        cases x with
        | n => exact hk .n _ _ _ g1 g2 g3
        | x i => exact hk (.x i) _ _ _ g1 g2 g3
        | r => exact hk .r _ _ _ g1 g2 g3
        | g l =>
          show ∃ n, J l n a' w'
          simp only at g1
          split at g1
          · rename_i r hr
            obtain ⟨hin, d, hd, hh⟩ := labsOk_at h2 (look_mem hr)
            obtain ⟨s, pre, m, ⟨q1, q2⟩, q3, q4⟩ := fwd_headL g1 (headL_slots hh)
            exact ⟨m w', r, s, pre, m, look_mem hr, q2, q3, rfl, sub_app g2 g3 q4, d, hd, q1⟩
          · exact g1.elim
      · rintro l d n a w hd ⟨r, s, pre, m, hmem, hsl, hpre, rfl, hsub, d', hd', hW⟩
        rw [hd] at hd'; cases hd'
        obtain ⟨hin, _⟩ := labsOk_at h2 hmem
        refine W_sound hm d _ w _ (hW w hpre) a _ hsub fun x e' w' a' g1 g2 g3 => ?_
        have hx : Ext (writes c) e e' := (ext_app hin hsl).trans' (g2.mono (writes_label hd))
        cases x with
        | n => exact hk .n _ _ _ g1 hx g3
        | x i => exact hk (.x i) _ _ _ g1 hx g3
        | r => exact hk .r _ _ _ g1 hx g3
        | g l' =>
          show ∃ n', n' < m w ∧ J l' n' a' w'
          simp only at g1
          split at g1
          · rename_i r' hr'
            obtain ⟨hin', d', hd', hh⟩ := labsOk_at h2 (look_mem hr')
            obtain ⟨s', pre', m', ⟨q1, q2⟩, q3, q5, q4⟩ := back_headL g1 (headL_slots hh)
            exact ⟨m' w', q5, r', s', pre', m', look_mem hr', q2, q3, rfl, sub_app hx g3 q4, d', hd', q1⟩
          · exact g1.elim
theorem WS_sound {P : Program} {ty : Nat → Sh} {N : Nat} {ann : Ann} (hm : P.follows .mixedOrders = true) : ∀ (c : Code) (e : Env) (w : World) (K : Ex → Env → World → Prop), WS P ty N ann c e w K →
    ∀ (a : Act) (Q : Exit → Act → World → Prop), Sub D N e a → (∀ x e' w' a', K x e' w' → Ext (writes c) e e' → Sub D N e' a' → Q x.exit a' w') → c.wp P Q a w
  | .scope c, e, w, K, h, a, Q, hs, hk => WSc_sound hm c e w K h a Q hs hk
  | .seq x y, e, w, K, h, a, Q, hs, hk => by
    simp only [WS] at h
    split at h
    · refine wp_seq (W_sound hm x e w _ h a _ hs fun x e' w' a' h1 h2 h3 => ?_)
      cases x with
      | n => exact WS_sound hm y e' w' K h1 a' Q h3 fun x2 e2 w2 a2 k1 k2 k3 => hk _ _ _ _ k1 (h2.trans k2) k3
      | x i => exact hk (.x i) _ _ _ h1 (h2.mono fun t ht => (memN_app ht).1) h3
      | g i => exact hk (.g i) _ _ _ h1 (h2.mono fun t ht => (memN_app ht).1) h3
      | r => exact hk .r _ _ _ h1 (h2.mono fun t ht => (memN_app ht).1) h3
    · exact W_sound hm _ e w K h a Q hs hk
  | .skip, e, w, K, h, a, Q, hs, hk => W_sound hm _ e w K h a Q hs hk
  | .region .., e, w, K, h, a, Q, hs, hk => W_sound hm _ e w K h a Q hs hk
  | .cond .., e, w, K, h, a, Q, hs, hk => W_sound hm _ e w K h a Q hs hk
  | .block .., e, w, K, h, a, Q, hs, hk => W_sound hm _ e w K h a Q hs hk
  | .loop .., e, w, K, h, a, Q, hs, hk => W_sound hm _ e w K h a Q hs hk
  | .exit .., e, w, K, h, a, Q, hs, hk => W_sound hm _ e w K h a Q hs hk
  | .label .., e, w, K, h, a, Q, hs, hk => W_sound hm _ e w K h a Q hs hk
  | .goto .., e, w, K, h, a, Q, hs, hk => W_sound hm _ e w K h a Q hs hk
  | .ret, e, w, K, h, a, Q, hs, hk => W_sound hm _ e w K h a Q hs hk
  | .rangeFunc .., e, w, K, h, a, Q, hs, hk => W_sound hm _ e w K h a Q hs hk
  | .refuse .., e, w, K, h, a, Q, hs, hk => W_sound hm _ e w K h a Q hs hk

section
variable (P : Program) (ty : Nat → Sh) (N : Nat) (ann : Ann)
/-- What is handed back. -/
def ans : List ResultVar → Env → World → (List Value → Prop) → Prop
  | [], _, _, f => f []
  | .tmp t :: r, e, w, f => match get e t with
    | some v => ans r e w fun vs => f (v.1 :: vs)
    | none => False
  | .cell p t :: r, e, w, f => match get e p with
    | some v => match v.1 with
      | .pointer (some a) => exSh (ty t) fun v => (loadVar t a).run P w = .ok v w ∧ ans r e w fun vs => f (v :: vs)
      | _ => False
    | none => False
def tupled : List Value → Value
  | [v] => v
  | vs => .tuple vs.toArray
def answer (fn : Func) (R : Value → World → Prop) (e : Env) (w : World) : Prop :=
  ans P ty fn.results.toList e w fun vs => R (tupled vs) w
def envOf : List (Value × Bool) → Nat → Env
  | [], _ => []
  | v :: r, n => (n, v) :: envOf r (n + 1)
def firsts : List (Value × Bool) → List Value
  | [] => []
  | v :: r => v.1 :: firsts r
def Body (fn : Func) (c : Code) (args : List (Value × Bool)) (w : World) (R : Value → World → Prop) : Prop :=
  WS P ty fn.ntmps ann c (envOf args 0) w fun x e w' => match x with
    | .n => answer P ty fn R e w'
    | .r => answer P ty fn R e w'
    | _ => False
end
theorem get_envOf : ∀ (l : List (Value × Bool)) (n t : Nat) (v : Val), get (envOf l n) t = some v → n ≤ t ∧ (firsts l)[t - n]? = some v.1
  | [], n, t, v, h => by cases h
  | u :: r, n, t, v, h => by
    simp only [envOf, get_cons] at h
    by_cases hnt : n = t
    · subst hnt
      simp only [if_true, Option.some.injEq] at h
      subst h
      simp [firsts]
    · rw [if_neg hnt] at h
      obtain ⟨h1, h2⟩ := get_envOf r (n + 1) t v h
      refine ⟨by omega, ?_⟩
      rw [show t - n = (t - (n + 1)) + 1 by omega]
      simpa [firsts] using h2
theorem run_mapM {α β : Type} {P : Program} {w : World} {f : α → Sem β} : ∀ {l : List α} {vs : List β}, l.length = vs.length → (∀ (i : Nat) (x : α) (y : β), l[i]? = some x → vs[i]? = some y → (f x).run P w = .ok y w) → (l.mapM f).run P w = .ok vs w
  | [], [], _, _ => rfl
  | x :: l, v :: vs, hl, h => by
    have h0 := h 0 x v rfl rfl
    have ih := run_mapM (f := f) (l := l) (vs := vs) (by simpa using hl) fun i x y h1 h2 => h (i + 1) x y h1 h2
    rw [List.mapM_cons]
    simp [h0, ih]
def resAt (tmps : Array Value) : ResultVar → Sem Value
  | .tmp t => pure (tmps.getD t undef)
  | .cell a t => do loadVar t (← asAddr (tmps.getD a undef))
theorem ans_out {P : Program} {ty : Nat → Sh} {N : Nat} {e : Env} {a : Act} {w : World} (hs : Sub D N e a) : ∀ (l : List ResultVar) (f : List Value → Prop), ans P ty l e w f →
    ∃ vs, f vs ∧ l.length = vs.length ∧ ∀ (i : Nat) (x : ResultVar) (y : Value), l[i]? = some x → vs[i]? = some y → (resAt a.tmps x).run P w = .ok y w
  | [], f, h => ⟨[], h, rfl, fun i x y hx => by simp at hx⟩
  | .tmp t :: r, f, h => by
    simp only [ans] at h
    split at h
    · rename_i v hv
      obtain ⟨vs, h1, h2, h3⟩ := ans_out hs r _ h
      refine ⟨v.1 :: vs, h1, by simp [h2], fun i x y hx hy => ?_⟩
      cases i with
      | zero =>
        simp only [List.getElem?_cons_zero, Option.some.injEq] at hx hy
        subst hx hy
        simp [resAt, hs.at_ t v hv]
      | succ i => exact h3 i x y (by simpa using hx) (by simpa using hy)
    · exact h.elim
  | .cell p t :: r, f, h => by
    simp only [ans] at h
    split at h
    · rename_i v hv
      split at h
      · rename_i ad hp
        obtain ⟨u, hr, h⟩ := exSh_out _ _ h
        obtain ⟨vs, h1, h2, h3⟩ := ans_out hs r _ h
        refine ⟨u :: vs, h1, by simp [h2], fun i x y hx hy => ?_⟩
        cases i with
        | zero =>
          simp only [List.getElem?_cons_zero, Option.some.injEq] at hx hy
          subst hx hy
          have : a.tmps.getD p undef = .pointer (some ad) := by simp [hs.at_ p v hv, hp]
          simp [resAt, this, asAddr, hr]
        | succ i => exact h3 i x y (by simpa using hx) (by simpa using hy)
      · exact h.elim
    · exact h.elim
/-- THE FORMULA OF A FUNCTION IS ENOUGH. -/
theorem calls_of_body {P : Program} {ty : Nat → Sh} {ann : Ann} {f : FuncId} {fn : Func} {c : Code} {vs : List (Value × Bool)} {w : World} {R : Value → World → Prop} {R' : Ending → World → Prop}
    (hm : P.follows .mixedOrders = true) (hf : P.funcs[f]? = some fn) (hb : fn.body = some c) (hn : Nat.ble vs.length fn.ntmps = true)
    (h : Body P ty ann fn c vs w R) (hR : ∀ v w', R v w' → R' (.returned v) w') : Calls P f (firsts vs).toArray w R' := by
  have hlen : ∀ l : List (Value × Bool), (firsts l).length = l.length := fun l => by induction l with
    | nil => rfl
    | cons v r ih => simp [firsts, ih]
  have hn' : vs.length ≤ fn.ntmps := Nat.le_of_ble_eq_true hn
  refine calls_of_wp hf hb (WS_sound hm c _ w _ h _ _ ⟨by simp [hlen]; omega, rfl, fun t v hv => ?_⟩ fun x e' w' a' h1 _ h3 => ?_)
  · obtain ⟨_, h2⟩ := get_envOf vs 0 t v hv
    have h2' : (firsts vs)[t]? = some v.1 := by simpa using h2
    have hlt := (List.getElem?_eq_some_iff.1 h2').1
    simp only
    rw [Array.getElem?_append_left (by simpa using hlt)]
    simpa using h2'
  · have key : answer P ty fn R e' w' → a'.defers = [] ∧ ∃ v, (results fn a'.tmps).run P w' = .ok v w' ∧ R' (.returned v) w' := fun h1 => by
      obtain ⟨vs, hR1, hl, hv⟩ := ans_out h3 _ _ h1
      refine ⟨h3.defers, tupled vs, ?_, hR _ _ hR1⟩
      have hmap := run_mapM (P := P) (w := w') hl hv
      have hres : results fn a'.tmps = (fn.results.mapM (resAt a'.tmps)) >>= fun vs => pure (if h : vs.size = 1 then vs[0] else .tuple vs) := by
        unfold results; congr 1
      rw [hres, Array.mapM_eq_mapM_toList]
      simp only [Sem.run_bind, Sem.run_map, hmap]
      match vs with
      | [] => rfl
      | [v] => rfl
      | v :: u :: r => rfl
    cases x with
    | n => exact key h1
    | r => exact key h1
    | x i => exact h1.elim
    | g i => exact h1.elim
end Vc

/- Small laws for reading formulas: cells of known blocks, frames, wraps and bits. No condition: for all programs. -/
set_option linter.unusedVariables false
namespace Vc
open Go

/-! ### Blocks -/
section
variable {w w2 : World} {b : Nat} {cs : Array Value} {t : TypeId} {fz : Nat × Nat}
theorem cell_blk (h : w.heap[b]? = some (.cells cs t fz)) (i : Nat) : w.cell? ⟨b, i, none⟩ = cs[i]? := by simp [World.cell?, h]
theorem frozen_blk (h : w.heap[b]? = some (.cells cs t (0, 0))) (i : Nat) : w.frozen? ⟨b, i, none⟩ = false := by simp [World.frozen?, h]
theorem lt_blk {o : Obj} (h : w.heap[b]? = some o) : b < w.heap.size := (Array.getElem?_eq_some_iff.1 h).1
theorem wr_blk (h : w.heap[b]? = some (.cells cs t (0, 0))) {i : Nat} (hi : i < cs.size) : Wr w ⟨b, i, none⟩ :=
  ⟨⟨cs[i], by rw [cell_blk h]; simp [hi]⟩, frozen_blk h i⟩
theorem set_blk (h : w.heap[b]? = some (.cells cs t fz)) (i : Nat) (v : Value) : (w.setCell ⟨b, i, none⟩ v).heap[b]? = some (.cells (cs.setIfInBounds i v) t fz) := by
  have hlt := lt_blk h
  have h' : w.heap[b] = .cells cs t fz := by simpa [Array.getElem?_eq_getElem hlt] using h
  show (w.heap.modify b _)[b]? = _
  rw [Array.getElem?_eq_getElem (by simpa using hlt), Array.getElem_modify_self, h']
  rfl
theorem set_other {a : Addr} (h : b ≠ a.block) (v : Value) : (w.setCell a v).heap[b]? = w.heap[b]? := by
  simp only [World.setCell, Array.getElem?_modify]
  rw [if_neg (fun e => h e.symm)]
theorem alloc_new (w : World) (o : Obj) : (w.alloc o).heap[w.heap.size]? = some o := by
  show (w.heap.push o)[w.heap.size]? = _
  simp
theorem alloc_old (w : World) (o : Obj) {k : Nat} (h : k < w.heap.size) : (w.alloc o).heap[k]? = w.heap[k]? := by
  show (w.heap.push o)[k]? = _
  rw [Array.getElem?_push, if_neg (by omega)]
theorem Drew.heap (h : Drew w w2) : w2.heap = w.heap := by obtain ⟨n, rfl⟩ := h; rfl
theorem Drew.refl (w : World) : Drew w w := ⟨0, rfl⟩
theorem Drew.trans {w3 : World} (h : Drew w w2) (h' : Drew w2 w3) : Drew w w3 := by
  obtain ⟨n, rfl⟩ := h; obtain ⟨m, rfl⟩ := h'; exact ⟨n + m, by simp⟩
theorem Drew.cell (h : Drew w w2) (a : Addr) : w2.cell? a = w.cell? a := by obtain ⟨n, rfl⟩ := h; rfl
end

/-- Outside the blocks X all that was there is as it was. -/
structure Fr (X : Nat → Prop) (w w' : World) : Prop where
  os : w'.os = w.os
  tape : w'.tape = w.tape
  output : w'.output = w.output
  size : w.heap.size ≤ w'.heap.size
  blk : ∀ k, k < w.heap.size → ¬ X k → w'.heap[k]? = w.heap[k]?
section
variable {X Y : Nat → Prop} {w w1 w2 : World}
theorem Fr.refl (X : Nat → Prop) (w : World) : Fr X w w := ⟨rfl, rfl, rfl, Nat.le_refl _, fun _ _ _ => rfl⟩
theorem Fr.trans (h : Fr X w w1) (h' : Fr Y w1 w2) (hxy : ∀ k, k < w.heap.size → Y k → X k) : Fr X w w2 :=
  ⟨h'.os.trans h.os, h'.tape.trans h.tape, h'.output.trans h.output, Nat.le_trans h.size h'.size,
    fun k hk hx => (h'.blk k (Nat.lt_of_lt_of_le hk h.size) (fun hy => hx (hxy k hk hy))).trans (h.blk k hk hx)⟩
theorem Fr.trans' (h : Fr X w w1) (h' : Fr X w1 w2) : Fr X w w2 := h.trans h' fun _ _ h => h
theorem Fr.mono (h : Fr X w w1) (hxy : ∀ k, k < w.heap.size → X k → Y k) : Fr Y w w1 :=
  ⟨h.os, h.tape, h.output, h.size, fun k hk hy => h.blk k hk (fun hx => hy (hxy k hk hx))⟩
theorem Fr.drew (X : Nat → Prop) (h : Drew w w1) : Fr X w w1 := by obtain ⟨n, rfl⟩ := h; exact ⟨rfl, rfl, rfl, Nat.le_refl _, fun _ _ _ => rfl⟩
theorem Fr.set (X : Nat → Prop) (w : World) {a : Addr} (v : Value) (h : X a.block) : Fr X w (w.setCell a v) :=
  ⟨rfl, rfl, rfl, by simp, fun _ _ hx => set_other (fun e => hx (by rw [e]; exact h)) v⟩
theorem Fr.alloc (X : Nat → Prop) (w : World) (o : Obj) : Fr X w (w.alloc o) := ⟨rfl, rfl, rfl, by simp, fun _ hk _ => alloc_old w o hk⟩
theorem Fr.grown {r : Option Nat} (h : w.grownBy w1 r) : Fr (fun k => some k = r) w w1 := ⟨h.os, h.tape, h.output, h.size, fun k hk hx => h.block k hk hx⟩
theorem Fr.below {B : Nat} (h : Fr (fun k => B ≤ k) w w1) (hB : B ≤ w.heap.size) : RowKit.Below B w w1 :=
  ⟨h.os, h.tape, h.output, h.size, fun k hk => h.blk k (by omega) (by omega)⟩
theorem Fr.keep (h : Fr X w w1) {k : Nat} {o : Obj} (hk : w.heap[k]? = some o) (hx : ¬ X k) : w1.heap[k]? = some o := (h.blk k (lt_blk hk) hx).trans hk
end

theorem Fr.cell {X : Nat → Prop} {w w1 : World} (h : Fr X w w1) {a : Addr} {v : Value} (hc : w.cell? a = some v) (hx : ¬ X a.block) : w1.cell? a = some v := by
  have hlt := World.block_lt_of_cell? w a hc
  rw [← hc]; unfold World.cell?; rw [h.blk a.block hlt hx]
/-- A slice of integers that came in: nil, or a row of cells. -/
def IsRow (k : IntKind) (w : World) (a : Option Addr) (len cap : Nat) (zs : List Int) : Prop :=
  (a = none ∧ len = 0 ∧ cap = 0 ∧ zs = []) ∨
  ∃ x, a = some x ∧ len ≤ cap ∧ cap ≤ maxLen ∧ zs.length = cap ∧ (∀ i, i < zs.length → w.cell? (x.add i) = some (.int k (zs.getD i 0))) ∧ ∀ n ∈ zs, (Lit.int k n).wf = true
theorem add_block (a : Addr) (n : Nat) : (a.add n).block = a.block := by unfold Addr.add; split <;> rfl
/-- Its element at a place, while all that stood at the beginning stands. -/
theorem IsRow.at {k : IntKind} {w w1 : World} {a : Option Addr} {len cap : Nat} {zs : List Int} (h : IsRow k w a len cap zs) {i : Nat} (hi : i < len) (hf : Fr (fun b => w.heap.size ≤ b) w w1) :
    ∃ x, a = some x ∧ w1.cell? (x.add i) = some (.int k (zs.getD i 0)) := by
  rcases h with ⟨_, h, _⟩ | ⟨x, hx, hl, _, hz, hc, _⟩
  · omega
  · have h1 := hc i (by omega)
    have hlt := World.block_lt_of_cell? w _ h1
    exact ⟨x, hx, hf.cell h1 (by simpa using hlt)⟩

/-! ### Numbers -/
theorem wrap_u {k : IntKind} {m : Nat} (hk : k.signed = false) (hb : k.bits = m) {x : Int} (h0 : 0 ≤ x) (h1 : x < 2 ^ m) : k.wrap x = x := by
  subst hb
  unfold IntKind.wrap
  simp only [hk, Bool.false_and, Bool.false_eq_true, if_false]
  exact Int.emod_eq_of_lt h0 h1
theorem wrap_u64 {x : Int} (h0 : 0 ≤ x) (h1 : x < 18446744073709551616) : IntKind.u64.wrap x = x := wrap_u rfl rfl h0 h1
theorem wrap_u32 {x : Int} (h0 : 0 ≤ x) (h1 : x < 4294967296) : IntKind.u32.wrap x = x := wrap_u rfl rfl h0 h1
theorem wrap_u8 {x : Int} (h0 : 0 ≤ x) (h1 : x < 256) : IntKind.u8.wrap x = x := wrap_u rfl rfl h0 h1
theorem wrap_i64 {x : Int} (h0 : -9223372036854775808 ≤ x) (h1 : x < 9223372036854775808) : IntKind.i64.wrap x = x := by
  unfold IntKind.wrap
  simp only [IntKind.bits, IntKind.signed, Bool.true_and]
  split <;> rename_i h <;> simp only [ge_iff_le, decide_eq_true_eq] at h <;> omega
theorem wrap_u64_mod (x : Int) : IntKind.u64.wrap x = x % 18446744073709551616 := by
  unfold IntKind.wrap; simp only [IntKind.bits, IntKind.signed, Bool.false_and, Bool.false_eq_true, if_false]; rfl
theorem wrap_u32_mod (x : Int) : IntKind.u32.wrap x = x % 4294967296 := by
  unfold IntKind.wrap; simp only [IntKind.bits, IntKind.signed, Bool.false_and, Bool.false_eq_true, if_false]; rfl
theorem wrap_u8_mod (x : Int) : IntKind.u8.wrap x = x % 256 := by
  unfold IntKind.wrap; simp only [IntKind.bits, IntKind.signed, Bool.false_and, Bool.false_eq_true, if_false]; rfl
theorem bv_nat (m a : Nat) (h : a < 2 ^ m) : (BitVec.ofInt m (a : Int)).toNat = a := by
  rw [BitVec.toNat_ofInt]
  have : ((a : Int) % ((2 ^ m : Nat) : Int)) = (a : Int) := Int.emod_eq_of_lt (by omega) (by exact_mod_cast h)
  rw [this]; simp
theorem or_nat (m a b : Nat) (ha : a < 2 ^ m) (hb : b < 2 ^ m) : (BitVec.ofInt m (a : Int) ||| BitVec.ofInt m (b : Int)).toNat = a ||| b := by
  rw [BitVec.toNat_or, bv_nat m a ha, bv_nat m b hb]
theorem and_nat (m a b : Nat) (ha : a < 2 ^ m) (hb : b < 2 ^ m) : (BitVec.ofInt m (a : Int) &&& BitVec.ofInt m (b : Int)).toNat = a &&& b := by
  rw [BitVec.toNat_and, bv_nat m a ha, bv_nat m b hb]
theorem xor_nat (m a b : Nat) (ha : a < 2 ^ m) (hb : b < 2 ^ m) : (BitVec.ofInt m (a : Int) ^^^ BitVec.ofInt m (b : Int)).toNat = a ^^^ b := by
  rw [BitVec.toNat_xor, bv_nat m a ha, bv_nat m b hb]

/-- The byte at a place, nought beyond the end. -/
def byt (s : ByteArray) (i : Nat) : Nat := ((s.data.toList[i]?).getD 0).toNat
theorem byt_lt (s : ByteArray) (i : Nat) : byt s i < 256 := (((s.data.toList[i]?).getD 0)).toNat_lt
theorem byteAt_nat (s : ByteArray) (i : Nat) : byteAt s (i : Int) = (byt s i : Int) := by simp [byteAt, byt]
end Vc

/- Slices, maps from texts, and ranging over one: what is read, what a call owns, append, an element or a field set. Conditions: as named. -/
set_option linter.unusedVariables false
namespace Vc
open Go

/-- These values lie where the slice begins. -/
def Reads (w : World) (a : Option Addr) (xs : List Value) : Prop := ∀ i v, xs[i]? = some v → ∃ x, a = some x ∧ w.cell? (x.add i) = some v
theorem Reads.keep {w w1 : World} {a : Option Addr} {xs : List Value} (h : Reads w a xs) {X : Nat → Prop} (hf : Fr X w w1) (hx : ∀ x, a = some x → ¬ X x.block) : Reads w1 a xs := fun i v hv => by
  obtain ⟨x, ha, hc⟩ := h i v hv
  exact ⟨x, ha, hf.cell hc (by rw [add_block]; exact hx x ha)⟩
theorem Reads.nil (w : World) (a : Option Addr) : Reads w a [] := fun i v h => by simp at h
theorem Reads.lt {w : World} {a : Option Addr} {xs : List Value} (h : Reads w a xs) (hn : xs ≠ []) : ∃ x, a = some x ∧ x.block < w.heap.size := by
  cases xs with
  | nil => exact absurd rfl hn
  | cons v r =>
    obtain ⟨x, ha, hc⟩ := h 0 v rfl
    exact ⟨x, ha, by simpa [add_block] using World.block_lt_of_cell? w _ hc⟩
theorem add_add (x : Addr) (i j : Nat) : (x.add i).add j = x.add (i + j) := by
  unfold Addr.add
  by_cases hi : i = 0 <;> by_cases hj : j = 0 <;> simp [hi, hj, Nat.add_assoc]
theorem Reads.drop {w : World} {x : Addr} {xs : List Value} (h : Reads w (some x) xs) (k : Nat) : Reads w (some (x.add k)) (xs.drop k) := fun i v hv => by
  rw [List.getElem?_drop] at hv
  obtain ⟨y, hy, hc⟩ := h _ _ hv
  cases hy
  exact ⟨_, rfl, by rw [add_add]; exact hc⟩
theorem Reads.take {w : World} {a : Option Addr} {xs : List Value} (h : Reads w a xs) (k : Nat) : Reads w a (xs.take k) := fun i v hv => by
  rw [List.getElem?_take] at hv
  split at hv
  · exact h i v hv
  · cases hv
theorem Reads.at {w : World} {a : Option Addr} {xs : List Value} (h : Reads w a xs) {i : Nat} (hi : i < xs.length) : ∃ x, a = some x ∧ w.cell? (x.add i) = some xs[i] := h i _ (by simp [hi])
/-- What came in as integers. -/
theorem IsRow.reads {k : IntKind} {w : World} {a : Option Addr} {len cap : Nat} {zs : List Int} (h : IsRow k w a len cap zs) : Reads w a ((zs.take len).map (.int k)) ∧ ((zs.take len).map (Value.int k)).length = len ∧ ∀ z ∈ zs.take len, (Lit.int k z).wf = true := by
  rcases h with ⟨rfl, rfl, rfl, rfl⟩ | ⟨x, rfl, hl, _, hz, hc, hw⟩
  · exact ⟨.nil _ _, rfl, by simp⟩
  · refine ⟨fun i v hv => ⟨x, rfl, ?_⟩, by simp; omega, fun z hz => hw z (List.mem_of_mem_take hz)⟩
    rw [List.getElem?_map, List.getElem?_take] at hv
    split at hv
    · rename_i hi
      rw [hc i (by omega)]
      simp only [List.getElem?_eq_getElem (show i < zs.length by omega), Option.map_some, Option.some.injEq] at hv
      rw [← hv, List.getD_eq_getElem?_getD, List.getElem?_eq_getElem (show i < zs.length by omega)]
      rfl
    · cases hv
/-- A slice of the call's own, from block 'base' on: its cells' values. -/
def Own (w : World) (base : Nat) (e : TypeId) (l : Sl) (xs : List Value) : Prop :=
  xs.length = l.len ∧ ((l.a = none ∧ l.len = 0 ∧ l.cap = 0) ∨
    ∃ g cur, l.a = some ⟨g, 0, none⟩ ∧ base ≤ g ∧ w.heap[g]? = some (.cells cur e (0, 0)) ∧ l.len ≤ l.cap ∧ l.cap ≤ maxLen ∧ cur.size = l.cap ∧ cur.toList.take l.len = xs)
section
variable {w w1 : World} {base : Nat} {e : TypeId} {l : Sl} {xs : List Value}
theorem Own.toRow (h : Own w base e l xs) : w.ownsRow base e 1 (.slice l.a l.len l.cap) l.len xs := by
  obtain ⟨h1, h2⟩ := h
  refine ⟨by omega, ?_⟩
  rcases h2 with ⟨a, b, c⟩ | ⟨g, cur, ha, hb, hg, hl, hm, hs, ht⟩
  · exact .inl ⟨by rw [a, b, c], b⟩
  · exact .inr ⟨g, l.cap, cur, by rw [ha], hb, hg, hl, hm, by omega, by rw [Nat.mul_one]; exact ht⟩
theorem Own.ofRow {a : Option Addr} {n c m : Nat} (h : w.ownsRow base e 1 (.slice a n c) m xs) : Own w base e ⟨a, n, c⟩ xs ∧ n = m := by
  obtain ⟨h1, h2⟩ := h
  rcases h2 with ⟨h2, h3⟩ | ⟨g, cap, cur, hv, hb, hg, hl, hm, hs, ht⟩
  · simp only [Value.slice.injEq] at h2
    obtain ⟨rfl, rfl, rfl⟩ := h2
    exact ⟨⟨by simp only; omega, .inl ⟨rfl, rfl, rfl⟩⟩, h3.symm⟩
  · simp only [Value.slice.injEq] at hv
    obtain ⟨rfl, rfl, rfl⟩ := hv
    exact ⟨⟨by simp only; omega, .inr ⟨g, cur, rfl, hb, hg, hl, hm, by simp only; omega, by simpa using ht⟩⟩, rfl⟩
theorem Own.nil (w : World) (base : Nat) (e : TypeId) : Own w base e ⟨none, 0, 0⟩ [] := ⟨rfl, .inl ⟨rfl, rfl, rfl⟩⟩
theorem Own.len (h : Own w base e l xs) : l.len = xs.length := h.1.symm
theorem Own.blk (h : Own w base e l xs) {x : Addr} (hx : l.a = some x) : base ≤ x.block ∧ x.block < w.heap.size := by
  rcases h.2 with ⟨ha, _⟩ | ⟨g, cur, ha, hb, hg, _⟩
  · rw [ha] at hx; cases hx
  · rw [ha] at hx; cases hx; exact ⟨hb, lt_blk hg⟩
theorem Own.keep (h : Own w base e l xs) {X : Nat → Prop} (hf : Fr X w w1) (hx : ∀ x, l.a = some x → ¬ X x.block) : Own w1 base e l xs := by
  refine ⟨h.1, ?_⟩
  rcases h.2 with hn | ⟨g, cur, ha, hb, hg, r⟩
  · exact .inl hn
  · exact .inr ⟨g, cur, ha, hb, hf.keep hg (hx _ ha), r⟩
theorem Own.mono (h : Own w base e l xs) {b : Nat} (hb : b ≤ base) : Own w b e l xs := by
  refine ⟨h.1, ?_⟩
  rcases h.2 with hn | ⟨g, cur, ha, hb', r⟩
  · exact .inl hn
  · exact .inr ⟨g, cur, ha, by omega, r⟩
theorem Own.drew (h : Own w base e l xs) (d : Drew w w1) : Own w1 base e l xs := h.keep (.drew (fun _ => False) d) (by simp)
theorem add_lit (b o n : Nat) : Addr.add ⟨b, o, none⟩ n = ⟨b, o + n, none⟩ := by
  unfold Addr.add; split
  · subst_vars; rfl
  · rfl
theorem Own.reads (h : Own w base e l xs) : Reads w l.a xs := fun i v hv => by
  rcases h.2 with ⟨_, h2, _⟩ | ⟨g, cur, ha, hb, hg, hl, hm, hs, ht⟩
  · have h1 := h.1
    rw [h2] at h1
    rw [List.length_eq_zero_iff.1 h1] at hv; simp at hv
  · refine ⟨_, ha, ?_⟩
    rw [add_lit, cell_blk hg, Nat.zero_add]
    rw [← ht, List.getElem?_take] at hv
    split at hv
    · simpa using hv
    · cases hv
end

/-- An element type of one cell. -/
structure El (P : Program) (t e : TypeId) (z : Value) (bytes : Nat) : Prop where
  sl : P.underlying t = some (.slice e)
  info : (P.info? e).map (fun i => (i.zero, i.size, i.bytes)) = some (some z, 1, bytes)
  one : z.cells.size = 1
section
variable {P : Program} {t e : TypeId} {z : Value} {bytes : Nat} {w : World} {base : Nat} {l : Sl} {xs : List Value}
theorem append_run (el : El P t e z bytes) (h : Own w base e l xs) (x : Addr) (c : Nat) (news : List Value) (hn : ∀ j u, news[j]? = some u → w.cell? (x.add j) = some u) (h1 : ∀ u ∈ news, u.oneCell' = true)
    (hm : xs.length + news.length ≤ maxLen) (hb : (xs.length + news.length) * bytes ≤ 140737488355328) (hbase : base ≤ w.heap.size) :
    ∃ w' l', (Builtin.append_ #[t, t] t #[.slice l.a l.len l.cap, .slice (some x) news.length c]).run P w = .ok (.slice l'.a l'.len l'.cap) w' ∧ Own w' base e l' (xs ++ news) ∧
      Fr (fun k => ∃ y, l.a = some y ∧ k = y.block) w w' := by
  obtain ⟨i, hi, hi2⟩ := Option.map_eq_some_iff.1 el.info
  simp only [Prod.mk.injEq] at hi2
  obtain ⟨v', w', hr, ho, hg, _⟩ := run_append_own (P := P) w base t t e i z 1 bytes el.sl hi hi2.1 hi2.2.1 hi2.2.2 el.one (by decide) (.slice l.a l.len l.cap) l.len xs h.toRow x news.length c news (by omega) hn h1
    (by rw [h.len]; exact hm) (by rw [h.len]; exact hb) hbase
  have hfr : Fr (fun k => ∃ y, l.a = some y ∧ k = y.block) w w' := (Fr.grown hg).mono fun k _ hk => by
    cases ha : l.a with
    | none => simp [Value.ownBlock, ha] at hk
    | some y => simp [Value.ownBlock, ha] at hk; exact ⟨y, rfl, hk⟩
  have hshape : ∃ a n c, v' = .slice a n c := by
    rcases ho.2 with ⟨h, _⟩ | ⟨g, cap, cur, h, _⟩
    · exact ⟨_, _, _, h⟩
    · exact ⟨_, _, _, h⟩
  obtain ⟨a, n, c', rfl⟩ := hshape
  exact ⟨w', ⟨a, n, c'⟩, hr, (Own.ofRow ho).1, hfr⟩

/-- 'out = append(out, v)': the formula's two steps. -/
theorem append_one (el : El P t e z bytes) (h : Own w base e l xs) {v : Value} (hv : v.oneCell' = true)
    (hm : xs.length + 1 ≤ maxLen) (hb : (xs.length + 1) * bytes ≤ 140737488355328) (hbase : base ≤ w.heap.size) {w2 : World} (hw2 : w2 = w.alloc (.cells #[v] e)) :
    ∃ w' l', (Builtin.append_ #[t, t] t #[.slice l.a l.len l.cap, .slice (some ⟨w.heap.size, 0, none⟩) 1 1]).run P w2 = .ok (.slice l'.a l'.len l'.cap) w' ∧ Own w' base e l' (xs ++ [v]) ∧
      Fr (fun k => ∃ y, l.a = some y ∧ k = y.block) w w' := by
  subst hw2
  have h2 : Own (w.alloc (.cells #[v] e)) base e l xs := h.keep (.alloc (fun _ => False) _ _) (by simp)
  obtain ⟨w', l', hr, ho, hf⟩ := append_run el h2 ⟨w.heap.size, 0, none⟩ 1 [v] (fun j u hu => by
      cases j with
      | zero => simp at hu; subst hu; rw [add_lit, cell_blk (alloc_new w _)]; rfl
      | succ j => simp at hu) (by simpa using hv) (by simpa using hm) (by simpa using hb) (by simp; omega)
  exact ⟨w', l', hr, ho, (Fr.alloc _ _ _).trans' hf⟩
/-- 'append(out, xs...)'. -/
theorem append_all (el : El P t e z bytes) (h : Own w base e l xs) {src : Option Addr} (c : Nat) {news : List Value} (hr : Reads w src news) (h1 : ∀ u ∈ news, u.oneCell' = true)
    (hm : xs.length + news.length ≤ maxLen) (hb : (xs.length + news.length) * bytes ≤ 140737488355328) (hbase : base ≤ w.heap.size) {m : Nat} (hlen : news.length = m) :
    ∃ w' l', (Builtin.append_ #[t, t] t #[.slice l.a l.len l.cap, .slice src m c]).run P w = .ok (.slice l'.a l'.len l'.cap) w' ∧ Own w' base e l' (xs ++ news) ∧
      Fr (fun k => ∃ y, l.a = some y ∧ k = y.block) w w' := by
  subst hlen
  cases src with
  | some x => exact append_run el h x c news (fun j u hu => by obtain ⟨y, hy, hc⟩ := hr j u hu; cases hy; exact hc) h1 hm hb hbase
  | none =>
    have hn : news = [] := by
      cases news with
      | nil => rfl
      | cons v r => obtain ⟨y, hy, _⟩ := hr 0 v rfl; cases hy
    subst hn
    refine ⟨w, l, ?_, by simpa using h, .refl _ _⟩
    obtain ⟨i, hi, hi2⟩ := Option.map_eq_some_iff.1 el.info
    have hcap : l.len ≤ l.cap := by
      rcases h.2 with ⟨_, h2, h3⟩ | ⟨_, _, _, _, _, hl, _⟩
      · omega
      · exact hl
    cases ha : l.a <;> simp [Builtin.append_, run_underlying el.sl, Go.sizeOf, typeInfo, hi, Builtin.lenOf, Builtin.firstCells, hcap, storeCells]
end

/-- One element set. -/
theorem Own.set {w : World} {base : Nat} {e : TypeId} {l : Sl} {xs : List Value} (h : Own w base e l xs) {i : Nat} (hi : i < xs.length) :
    ∃ x, l.a = some x ∧ w.cell? (x.add i) = some xs[i] ∧ Wr w (x.add i) ∧ ∀ v, Own (w.setCell (x.add i) v) base e l (xs.set i v) ∧ Fr (fun k => ∃ y, l.a = some y ∧ k = y.block) w (w.setCell (x.add i) v) := by
  obtain ⟨x, hx, hc⟩ := h.reads.at hi
  rcases h.2 with ⟨_, h2, _⟩ | ⟨g, cur, ha, hb, hg, hl, hm, hs, ht⟩
  · have := h.1; omega
  · rw [ha] at hx; cases hx
    refine ⟨_, ha, hc, ?_, fun v => ⟨⟨by simpa using h.1, .inr ⟨g, cur.setIfInBounds i v, ha, hb, ?_, hl, hm, by simpa using hs, ?_⟩⟩, .set _ _ _ ⟨_, ha, add_block _ _⟩⟩⟩
    · rw [add_lit]; exact wr_blk hg (by have := h.1; omega)
    · rw [add_lit, Nat.zero_add]; exact set_blk hg i v
    · rw [Array.toList_setIfInBounds, List.take_set, ht]

/-- A part of a slice: what is read through it. -/
theorem Reads.sub {w : World} {a : Option Addr} {xs : List Value} (h : Reads w a xs) {cap : Nat} (hc : xs.length ≤ cap) (k : Nat) : Reads w (subA a cap k 1) (xs.drop k) := by
  unfold subA
  split
  · rw [List.drop_eq_nil_of_le (by omega)]; exact .nil _ _
  · cases a with
    | none => 
      have : xs = [] := by
        cases xs with
        | nil => rfl
        | cons v r => obtain ⟨y, hy, _⟩ := h 0 v rfl; cases hy
      subst this; simpa using Reads.nil w _
    | some x => rw [Option.map_some, Nat.mul_one]; exact h.drop k
theorem Own.cap {w : World} {base : Nat} {e : TypeId} {l : Sl} {xs : List Value} (h : Own w base e l xs) : l.len ≤ l.cap := by
  rcases h.2 with ⟨_, h2, h3⟩ | ⟨_, _, _, _, _, hl, _⟩
  · omega
  · exact hl

/-- A slice of structs of m cells each that came in. -/
def IsRows (m : Nat) (Q : List Value → Prop) (w : World) (a : Option Addr) (len : Nat) : Prop :=
  ∀ i, i < len → ∃ x vs, a = some x ∧ vs.length = m ∧ Q vs ∧ ∀ j v, vs[j]? = some v → w.cell? (x.add (i * m + j)) = some v
theorem IsRows.at {m : Nat} {Q : List Value → Prop} {w w1 : World} {a : Option Addr} {len : Nat} (h : IsRows m Q w a len) {i : Nat} (hi : i < len) (hf : Fr (fun b => w.heap.size ≤ b) w w1) :
    ∃ x vs, a = some x ∧ vs.length = m ∧ Q vs ∧ ∀ j v, vs[j]? = some v → w1.cell? ((x.add (i * m)).add j) = some v := by
  obtain ⟨x, vs, ha, hl, hq, hc⟩ := h i hi
  refine ⟨x, vs, ha, hl, hq, fun j v hv => ?_⟩
  have h1 := hc j v hv
  have hlt := World.block_lt_of_cell? w _ h1
  rw [add_add]
  exact hf.cell h1 (by simpa using hlt)
theorem load_agg {P : Program} {t : TypeId} {vs : List Value} {w : World} {a : Addr} (hu : ∀ w, (isAgg t).run P w = .ok true w) (hi : (P.info? t).map (·.size) = some vs.length)
    (hc : ∀ k v, vs[k]? = some v → w.cell? (a.add k) = some v) : (loadVar t a).run P w = .ok (.agg vs.toArray) w := by
  obtain ⟨ie, hie, hs⟩ := Option.map_eq_some_iff.1 hi
  have := run_loadCells_list (P := P) w a vs hc
  simp [loadVar, hu, Go.sizeOf, typeInfo, hie, hs, this, Result.andThen]
def aggB (P : Program) (t : TypeId) : Bool := match P.underlying t with
  | some (.struct _) => true
  | some (.array _ _) => true
  | _ => false
theorem agg_of {P : Program} {t : TypeId} (h : aggB P t = true) (w : World) : (isAgg t).run P w = .ok true w := by
  unfold aggB at h
  split at h
  · rename_i h1; simp [isAgg, run_underlying h1]
  · rename_i h1; simp [isAgg, run_underlying h1]
  · cases h

theorem push_all : ∀ (bs : List UInt8) (s : ByteArray), (bs.map fun b => ((b.toNat : Nat) : Int)).foldl (fun r n => r.push (UInt8.ofNat n.toNat)) s = ⟨s.data ++ bs.toArray⟩
  | [], s => by simp
  | b :: r, s => by
    simp only [List.map_cons, List.foldl_cons]
    rw [push_all r]
    have : UInt8.ofNat ((b.toNat : Nat) : Int).toNat = b := by simp
    rw [this]
    show (⟨s.data.push b ++ r.toArray⟩ : ByteArray) = _
    congr 1
    apply Array.ext'
    simp
abbrev byteV (bs : List UInt8) : List Value := bs.map fun b => .int .u8 ((b.toNat : Nat) : Int)
theorem byteV_snoc (l : List UInt8) (c : Nat) (h : c < 256) : byteV l ++ [.int .u8 (c : Int)] = byteV (l ++ [UInt8.ofNat c]) := by
  simp [byteV]
  omega
/-- 'string(b)'. -/
theorem bytes_str {P : Program} {t e d : TypeId} (hs : P.underlying t = some (.slice e)) (he : P.underlying e = some (.int .u8)) (hd : P.underlying d = some .string)
    {w : World} {a : Option Addr} {n : Nat} (c : Nat) {bs : List UInt8} (h : Reads w a (byteV bs)) (hn : bs.length = n) : (convert t d (.slice a n c)).run P w = .ok (.string ⟨bs.toArray⟩) w := by
  subst hn
  rw [run_convert_bytes_string w t d e a _ c hs he hd]
  cases a with
  | none =>
    have : bs = [] := by
      cases bs with
      | nil => rfl
      | cons b r => obtain ⟨y, hy, _⟩ := h 0 _ rfl; cases hy
    subst this
    simp [Conv.bytesToString]; rfl
  | some x =>
    have hl : (loadCells x bs.length).run P w = .ok ((bs.map fun b => ((b.toNat : Nat) : Int)).map (Value.int .u8)).toArray w := by
      have := run_loadCells_list (P := P) w x (byteV bs) (fun j v hv => by obtain ⟨y, hy, hc⟩ := h j v hv; cases hy; exact hc)
      rw [List.length_map] at this
      rw [this]
      simp [Function.comp_def]
    rw [run_bytesToString w x bs.length c _ hl, push_all]
    simp
end Vc
namespace Vc
open Go Go.Lib

/-- The second slice lies where the first one lay, or in a block that is new. -/
def Since (w : World) (l l' : Sl) : Prop := ∀ y, l'.a = some y → (∃ x, l.a = some x ∧ x.block = y.block) ∨ w.heap.size ≤ y.block
theorem Since.refl (w : World) (l : Sl) : Since w l l := fun y hy => .inl ⟨y, hy, rfl⟩
theorem Since.trans {w w' : World} {l l' l'' : Sl} (h : Since w l l') (h' : Since w' l' l'') (hs : w.heap.size ≤ w'.heap.size) : Since w l l'' := fun y hy => by
  rcases h' y hy with ⟨x, hx, hb⟩ | hn
  · rcases h x hx with ⟨z, hz, hb'⟩ | hn
    · exact .inl ⟨z, hz, hb'.trans hb⟩
    · exact .inr (by omega)
  · exact .inr (by omega)
/-- A block that is not the first one's and was there is not the second one's. -/
theorem Since.ne {w : World} {l l' : Sl} (h : Since w l l') {k : Nat} (hk : k < w.heap.size) (hn : ∀ x, l.a = some x → x.block ≠ k) : ∀ y, l'.a = some y → y.block ≠ k := fun y hy => by
  rcases h y hy with ⟨x, hx, hb⟩ | h
  · have := hn x hx; omega
  · omega
/-- The slice's own block. -/
def At (l : Sl) (k : Nat) : Prop := ∃ y, l.a = some y ∧ k = y.block

section
variable {P : Program} {t e : TypeId} {z : Value} {bytes : Nat} {w : World} {base : Nat} {l : Sl} {xs : List Value}
theorem since_run (el : El P t e z bytes) (h : Own w base e l xs) (x : Addr) (c : Nat) (news : List Value) (hn : ∀ j u, news[j]? = some u → w.cell? (x.add j) = some u) (h1 : ∀ u ∈ news, u.oneCell' = true)
    (hm : xs.length + news.length ≤ maxLen) (hb : (xs.length + news.length) * bytes ≤ 140737488355328)
    {l' : Sl} {w' : World} (hr : (Builtin.append_ #[t, t] t #[.slice l.a l.len l.cap, .slice (some x) news.length c]).run P w = .ok (.slice l'.a l'.len l'.cap) w') : Since w l l' := by
  obtain ⟨i, hi, hi2⟩ := Option.map_eq_some_iff.1 el.info
  simp only [Prod.mk.injEq] at hi2
  obtain ⟨hz, hs1, hby⟩ := hi2
  have hlen := h.1
  rcases h.2 with ⟨ha, hl0, hc0⟩ | ⟨g, cur, ha, hbg, hg, hl, hmx, hs, ht⟩
  · obtain ⟨w2, l2, hr2, ho2, _⟩ := append_run (w := w) (base := w.heap.size) (l := l) (xs := xs) el ⟨hlen, .inl ⟨ha, hl0, hc0⟩⟩ x c news hn h1 hm hb (Nat.le_refl _)
    rw [hr2] at hr
    simp only [Result.ok.injEq, Value.slice.injEq] at hr
    obtain ⟨⟨e1, _, _⟩, rfl⟩ := hr
    intro y hy
    exact .inr (ho2.blk (by rw [e1]; exact hy)).1
  · have hms : maxLen = 140737488355328 ∨ True := .inr trivial
    unfold maxLen at hm
    by_cases hroom : l.len + news.length ≤ l.cap
    · have hr2 := run_append_room (P := P) w t t e i el.sl hi g l.len l.cap cur hg x news.length c news (by rw [hs1]; omega) hn h1 hroom (by rw [hs1]; omega)
      rw [← ha] at hr2
      rw [hr2] at hr
      simp only [Result.ok.injEq, Value.slice.injEq] at hr
      intro y hy
      refine .inl ⟨y, ?_, rfl⟩
      rw [hr.1.1]; exact hy
    · have holds : ∀ j u, xs[j]? = some u → w.cell? ((⟨g, 0, none⟩ : Addr).add j) = some u := fun j u hu => by
        obtain ⟨q, hq, hc⟩ := h.reads j u hu
        rw [ha] at hq; cases hq; exact hc
      have hr2 := run_append_grow (P := P) w t t e i z el.sl hi hz ⟨g, 0, none⟩ l.len l.cap xs (by rw [hs1]; omega) holds x news.length c news (by rw [hs1]; omega) hn (by omega) (by omega) (growslice_fits (by omega) (by rw [hby, ← hlen]; exact hb))
      rw [← ha] at hr2
      rw [hr2] at hr
      simp only [Result.ok.injEq, Value.slice.injEq] at hr
      intro y hy
      rw [← hr.1.1] at hy
      cases hy
      exact .inr (Nat.le_refl _)
theorem append_one' (el : El P t e z bytes) (h : Own w base e l xs) {v : Value} (hv : v.oneCell' = true)
    (hm : xs.length + 1 ≤ maxLen) (hb : (xs.length + 1) * bytes ≤ 140737488355328) (hbase : base ≤ w.heap.size) {w2 : World} (hw2 : w2 = w.alloc (.cells #[v] e)) :
    ∃ w' l', (Builtin.append_ #[t, t] t #[.slice l.a l.len l.cap, .slice (some ⟨w.heap.size, 0, none⟩) 1 1]).run P w2 = .ok (.slice l'.a l'.len l'.cap) w' ∧ Own w' base e l' (xs ++ [v]) ∧
      Fr (At l) w w' ∧ Since w l l' := by
  obtain ⟨w', l', hr, ho, hf⟩ := append_one el h hv hm hb hbase hw2
  refine ⟨w', l', hr, ho, hf, ?_⟩
  subst hw2
  have h2 : Own (w.alloc (.cells #[v] e)) base e l xs := h.keep (.alloc (fun _ => False) _ _) (by simp)
  have := since_run el h2 ⟨w.heap.size, 0, none⟩ 1 [v] (fun j u hu => by
      cases j with
      | zero => simp at hu; subst hu; rw [add_lit, cell_blk (alloc_new w _)]; rfl
      | succ j => simp at hu) (by simpa using hv) (by simpa using hm) (by simpa using hb) (l' := l') (w' := w') hr
  intro y hy
  rcases this y hy with hx | hn
  · exact .inl hx
  · simp only [World.alloc, Array.size_push] at hn
    exact .inr (by omega)
theorem append_all' (el : El P t e z bytes) (h : Own w base e l xs) {src : Option Addr} (c : Nat) {news : List Value} (hr : Reads w src news) (h1 : ∀ u ∈ news, u.oneCell' = true)
    (hm : xs.length + news.length ≤ maxLen) (hb : (xs.length + news.length) * bytes ≤ 140737488355328) (hbase : base ≤ w.heap.size) {m : Nat} (hlen : news.length = m) :
    ∃ w' l', (Builtin.append_ #[t, t] t #[.slice l.a l.len l.cap, .slice src m c]).run P w = .ok (.slice l'.a l'.len l'.cap) w' ∧ Own w' base e l' (xs ++ news) ∧
      Fr (At l) w w' ∧ Since w l l' := by
  cases src with
  | some x =>
    subst hlen
    have hn : ∀ j u, news[j]? = some u → w.cell? (x.add j) = some u := fun j u hu => by obtain ⟨y, hy, hc⟩ := hr j u hu; cases hy; exact hc
    obtain ⟨w', l', h2, ho, hf⟩ := append_run el h x c news hn h1 hm hb hbase
    exact ⟨w', l', h2, ho, hf, since_run el h x c news hn h1 hm hb h2⟩
  | none =>
    have hn : news = [] := by
      cases news with
      | nil => rfl
      | cons v r => obtain ⟨y, hy, _⟩ := hr 0 v rfl; cases hy
    subst hn
    subst hlen
    refine ⟨w, l, ?_, by simpa using h, .refl _ _, .refl _ _⟩
    obtain ⟨i, hi, hi2⟩ := Option.map_eq_some_iff.1 el.info
    have hcap := h.cap
    cases ha : l.a <;> simp [Builtin.append_, run_underlying el.sl, Go.sizeOf, typeInfo, hi, Builtin.lenOf, Builtin.firstCells, hcap, storeCells]
/-- 'append(out, s...)', s a string. -/
theorem append_str {u : TypeId} (el : El P t e (.int .u8 0) 1) (hu : P.underlying u = some .string) (h : Own w base e l xs) (s : ByteArray)
    (hm : xs.length + s.size ≤ 140737488355328) (hbase : base ≤ w.heap.size) :
    ∃ w' l', (Builtin.append_ #[t, u] t #[.slice l.a l.len l.cap, .string s]).run P w = .ok (.slice l'.a l'.len l'.cap) w' ∧ Own w' base e l' (xs ++ byteV s.data.toList) ∧
      Fr (At l) w w' ∧ Since w l l' := by
  obtain ⟨i, hi, hi2⟩ := Option.map_eq_some_iff.1 el.info
  simp only [Prod.mk.injEq] at hi2
  obtain ⟨hz, hs1, hby⟩ := hi2
  have hlen := h.1
  have key : ∀ b, Own w b e l xs → b ≤ w.heap.size → ∃ w' l', (Builtin.append_ #[t, u] t #[.slice l.a l.len l.cap, .string s]).run P w = .ok (.slice l'.a l'.len l'.cap) w' ∧ Own w' b e l' (xs ++ byteV s.data.toList) ∧ Fr (At l) w w' := by
    intro b h hb
    obtain ⟨v', w', hr, ho, hg, _⟩ := run_append_own_string (P := P) w b t u t e i el.sl hu hi hz hs1 hby (.slice l.a l.len l.cap) l.len xs h.toRow s (by unfold maxLen; omega) (by omega) hb
    have hshape : ∃ a n c, v' = .slice a n c := by
      rcases ho.2 with ⟨h, _⟩ | ⟨g, cap, cur, h, _⟩
      · exact ⟨_, _, _, h⟩
      · exact ⟨_, _, _, h⟩
    obtain ⟨a, n, c', rfl⟩ := hshape
    refine ⟨w', ⟨a, n, c'⟩, hr, (Own.ofRow ho).1, (Fr.grown hg).mono fun k _ hk => ?_⟩
    cases ha : l.a with
    | none => simp [Value.ownBlock, ha] at hk
    | some y => simp [Value.ownBlock, ha] at hk; exact ⟨y, ha, hk⟩
  obtain ⟨w', l', hr, ho, hf⟩ := key base h hbase
  refine ⟨w', l', hr, ho, hf, ?_⟩
  rcases h.2 with ⟨ha, hl0, hc0⟩ | ⟨g, cur, ha, hbg, hg, hl, hmx, hs, ht⟩
  · obtain ⟨w2, l2, hr2, ho2, _⟩ := key w.heap.size ⟨hlen, .inl ⟨ha, hl0, hc0⟩⟩ (Nat.le_refl _)
    rw [hr2] at hr
    simp only [Result.ok.injEq, Value.slice.injEq] at hr
    obtain ⟨⟨e1, _, _⟩, rfl⟩ := hr
    intro y hy
    exact .inr (ho2.blk (by rw [e1]; exact hy)).1
  · by_cases hroom : l.len + s.size ≤ l.cap
    · have hr2 := run_append_room_string (P := P) w t u t e i el.sl hu hi hs1 g l.len l.cap cur hg s hroom (by omega)
      rw [← ha] at hr2
      rw [hr2] at hr
      simp only [Result.ok.injEq, Value.slice.injEq] at hr
      intro y hy
      refine .inl ⟨y, ?_, rfl⟩
      rw [hr.1.1]; exact hy
    · have holds : ∀ j u, xs[j]? = some u → w.cell? ((⟨g, 0, none⟩ : Addr).add j) = some u := fun j u hu => by
        obtain ⟨q, hq, hc⟩ := h.reads j u hu
        rw [ha] at hq; cases hq; exact hc
      have hr2 := run_append_grow_string (P := P) w t u t e i (.int .u8 0) el.sl hu hi hz ⟨g, 0, none⟩ l.len l.cap xs (by rw [hs1]; omega) holds s (by omega) (by omega) (by rw [hby]; exact growslice_fits (by omega) (by omega))
      rw [← ha] at hr2
      rw [hr2] at hr
      simp only [Result.ok.injEq, Value.slice.injEq] at hr
      intro y hy
      rw [← hr.1.1] at hy
      cases hy
      exact .inr (Nat.le_refl _)
end
end Vc
namespace Vc
open Go

theorem flat_get {α : Type} {enc : α → List Value} {k : Nat} (hk : ∀ x, (enc x).length = k) : ∀ (xs : List α) (i : Nat) (x : α) (j : Nat) (v : Value), xs[i]? = some x → (enc x)[j]? = some v → (xs.flatMap enc)[i * k + j]? = some v
  | y :: r, 0, x, j, v, hx, hv => by
    simp only [List.getElem?_cons_zero, Option.some.injEq] at hx
    subst hx
    rw [List.flatMap_cons, Nat.zero_mul, Nat.zero_add, List.getElem?_append_left (List.getElem?_eq_some_iff.1 hv).1]; exact hv
  | y :: r, i + 1, x, j, v, hx, hv => by
    have := flat_get hk r i x j v (by simpa using hx) hv
    rw [List.flatMap_cons, List.getElem?_append_right (by rw [hk, Nat.succ_mul]; omega), hk, Nat.succ_mul, show i * k + k + j - k = i * k + j by omega]; exact this
  | [], i, x, j, v, hx, _ => by simp at hx
theorem flat_get' {α : Type} {enc : α → List Value} {k : Nat} (hk : ∀ x, (enc x).length = k) (h0 : 0 < k) : ∀ (xs : List α) (j : Nat) (v : Value), (xs.flatMap enc)[j]? = some v → ∃ x, xs[j / k]? = some x ∧ (enc x)[j % k]? = some v
  | [], j, v, h => by simp at h
  | y :: r, j, v, h => by
    rw [List.flatMap_cons] at h
    by_cases hj : j < k
    · rw [List.getElem?_append_left (by rw [hk]; exact hj)] at h
      exact ⟨y, by rw [Nat.div_eq_of_lt hj]; rfl, by rw [Nat.mod_eq_of_lt hj]; exact h⟩
    · rw [List.getElem?_append_right (by rw [hk]; omega), hk] at h
      obtain ⟨x, h1, h2⟩ := flat_get' hk h0 r (j - k) v h
      refine ⟨x, ?_, ?_⟩
      · rw [Nat.div_eq_sub_div h0 (by omega), List.getElem?_cons_succ]; exact h1
      · rw [Nat.mod_eq_sub_mod (by omega)]; exact h2
theorem flat_len {α : Type} {enc : α → List Value} {k : Nat} (hk : ∀ x, (enc x).length = k) : ∀ xs : List α, (xs.flatMap enc).length = xs.length * k
  | [] => by simp
  | x :: r => by rw [List.flatMap_cons, List.length_append, hk, flat_len hk r, List.length_cons, Nat.succ_mul]; omega

section
variable {α : Type} (enc : α → List Value) (k : Nat)
/-- These elements lie where the slice begins. -/
def ReadsK (w : World) (a : Option Addr) (xs : List α) : Prop := ∀ i x, xs[i]? = some x → ∃ ad, a = some ad ∧ ∀ j v, (enc x)[j]? = some v → w.cell? ((ad.add (i * k)).add j) = some v
/-- A slice of the call's own. -/
def OwnK (w : World) (base : Nat) (e : TypeId) (l : Sl) (xs : List α) : Prop := xs.length = l.len ∧ w.ownsRow base e k (.slice l.a l.len l.cap) l.len (xs.flatMap enc)
/-- What an element's type is. -/
structure ElK (P : Program) (t e : TypeId) (z : Value) (bytes : Nat) : Prop where
  sl : P.underlying t = some (.slice e)
  info : (P.info? e).map (fun i => (i.zero, i.size, i.bytes)) = some (some z, k, bytes)
  one : z.cells.size = k
  pos : 0 < k
  agg : aggB P e = true
  len : ∀ x, (enc x).length = k
  cells : ∀ x, ∀ u ∈ enc x, u.oneCell' = true
end
section
variable {α : Type} {enc : α → List Value} {k : Nat} {w w1 : World} {base : Nat} {e : TypeId} {l : Sl} {xs : List α} {a : Option Addr}
theorem ReadsK.keep (h : ReadsK enc k w a xs) {X : Nat → Prop} (hf : Fr X w w1) (hx : ∀ x, a = some x → ¬ X x.block) : ReadsK enc k w1 a xs := fun i x hi => by
  obtain ⟨ad, ha, hc⟩ := h i x hi
  exact ⟨ad, ha, fun j v hv => hf.cell (hc j v hv) (by rw [add_block, add_block]; exact hx ad ha)⟩
theorem ReadsK.nil (w : World) (a : Option Addr) : ReadsK enc k w a [] := fun i x h => by simp at h
theorem ReadsK.take (h : ReadsK enc k w a xs) (n : Nat) : ReadsK enc k w a (xs.take n) := fun i x hi => by
  rw [List.getElem?_take] at hi
  split at hi
  · exact h i x hi
  · cases hi
theorem ReadsK.drop {ad : Addr} (h : ReadsK enc k w (some ad) xs) (n : Nat) : ReadsK enc k w (some (ad.add (n * k))) (xs.drop n) := fun i x hi => by
  rw [List.getElem?_drop] at hi
  obtain ⟨b, hb, hc⟩ := h _ _ hi
  cases hb
  refine ⟨_, rfl, fun j v hv => ?_⟩
  have := hc j v hv
  rw [add_add] at this ⊢
  rw [add_add, ← Nat.add_assoc, ← Nat.add_mul]
  exact this
theorem ReadsK.sub {cap : Nat} (h : ReadsK enc k w a xs) (hc : xs.length ≤ cap) (n : Nat) : ReadsK enc k w (subA a cap n k) (xs.drop n) := by
  unfold subA
  split
  · rw [List.drop_eq_nil_of_le (by omega)]; exact .nil _ _
  · cases a with
    | none =>
      have : xs = [] := by
        cases xs with
        | nil => rfl
        | cons v r => obtain ⟨y, hy, _⟩ := h 0 v rfl; cases hy
      subst this; simpa using ReadsK.nil w _
    | some x => rw [Option.map_some]; exact h.drop n
theorem ReadsK.lt (h : ReadsK enc k w a xs) (hk : ∀ x, (enc x).length = k) (h0 : 0 < k) : xs ≠ [] → ∃ x, a = some x ∧ x.block < w.heap.size := fun hn => by
  cases xs with
  | nil => exact absurd rfl hn
  | cons y r =>
    obtain ⟨ad, ha, hc⟩ := h 0 y rfl
    have hlt : 0 < (enc y).length := by rw [hk]; exact h0
    have := World.block_lt_of_cell? w _ (hc 0 _ (List.getElem?_eq_getElem hlt))
    rw [add_block, add_block] at this
    exact ⟨ad, ha, this⟩
theorem ReadsK.flat {ad : Addr} (h : ReadsK enc k w (some ad) xs) (hk : ∀ x, (enc x).length = k) (h0 : 0 < k) : ∀ j v, (xs.flatMap enc)[j]? = some v → w.cell? (ad.add j) = some v := fun j v hv => by
  obtain ⟨x, h1, h2⟩ := flat_get' hk h0 xs j v hv
  obtain ⟨b, hb, hc⟩ := h _ _ h1
  cases hb
  have := hc _ _ h2
  rw [add_add, Nat.div_add_mod'] at this
  exact this
theorem ReadsK.load {P : Program} {t : TypeId} {z : Value} {bytes : Nat} (el : ElK enc k P t e z bytes) (h : ReadsK enc k w a xs) {i : Nat} {x : α} (hi : xs[i]? = some x) :
    ∃ ad, a = some ad ∧ (loadVar e (ad.add (i * k))).run P w = .ok (.agg (enc x).toArray) w := by
  obtain ⟨ad, ha, hc⟩ := h i x hi
  refine ⟨ad, ha, load_agg (agg_of el.agg) ?_ fun j v hv => hc j v hv⟩
  obtain ⟨ti, h1, h2⟩ := Option.map_eq_some_iff.1 el.info
  simp only [Prod.mk.injEq] at h2
  rw [h1, Option.map_some, h2.2.1, el.len]
theorem OwnK.len (h : OwnK enc k w base e l xs) : l.len = xs.length := h.1.symm
theorem OwnK.nil (w : World) (base : Nat) (e : TypeId) : OwnK enc k w base e ⟨none, 0, 0⟩ [] := ⟨rfl, by simp, .inl ⟨rfl, rfl⟩⟩
theorem OwnK.empty (w : World) (e : TypeId) : OwnK enc k (w.alloc (.cells #[] e)) w.heap.size e ⟨some ⟨w.heap.size, 0, none⟩, 0, 0⟩ [] :=
  ⟨rfl, by simp, .inr ⟨w.heap.size, 0, #[], rfl, Nat.le_refl _, alloc_new _ _, Nat.le_refl _, Nat.zero_le _, by simp, by simp⟩⟩
theorem OwnK.blk (h : OwnK enc k w base e l xs) {x : Addr} (hx : l.a = some x) : base ≤ x.block ∧ x.block < w.heap.size := by
  rcases h.2.2 with ⟨hv, _⟩ | ⟨g, cap, cur, hv, hb, hg, _⟩
  · simp only [Value.slice.injEq] at hv; rw [hv.1] at hx; cases hx
  · simp only [Value.slice.injEq] at hv; rw [hv.1] at hx; cases hx; exact ⟨hb, lt_blk hg⟩
theorem OwnK.cap (h : OwnK enc k w base e l xs) : l.len ≤ l.cap := by
  rcases h.2.2 with ⟨hv, _⟩ | ⟨g, cap, cur, hv, hb, hg, hl, _⟩
  · simp only [Value.slice.injEq] at hv; omega
  · simp only [Value.slice.injEq] at hv; omega
theorem OwnK.keep (h : OwnK enc k w base e l xs) {X : Nat → Prop} (hf : Fr X w w1) (hx : ∀ x, l.a = some x → ¬ X x.block) : OwnK enc k w1 base e l xs := by
  refine ⟨h.1, h.2.1, ?_⟩
  rcases h.2.2 with hn | ⟨g, cap, cur, hv, hb, hg, r⟩
  · exact .inl hn
  · refine .inr ⟨g, cap, cur, hv, hb, hf.keep hg (hx ⟨g, 0, none⟩ ?_), r⟩
    simp only [Value.slice.injEq] at hv; exact hv.1
theorem OwnK.mono (h : OwnK enc k w base e l xs) {b : Nat} (hb : b ≤ base) : OwnK enc k w b e l xs := by
  refine ⟨h.1, h.2.1, ?_⟩
  rcases h.2.2 with hn | ⟨g, cap, cur, hv, hb', r⟩
  · exact .inl hn
  · exact .inr ⟨g, cap, cur, hv, by omega, r⟩
theorem OwnK.drew (h : OwnK enc k w base e l xs) (d : Drew w w1) : OwnK enc k w1 base e l xs := h.keep (.drew (fun _ => False) d) (by simp)
theorem OwnK.reads (h : OwnK enc k w base e l xs) (hk : ∀ x, (enc x).length = k) : ReadsK enc k w l.a xs := fun i x hx => by
  rcases h.2.2 with ⟨hv, hz⟩ | ⟨g, cap, cur, hv, hb, hg, hl, hm, hs, ht⟩
  · have h1 := h.1
    rw [hz] at h1
    rw [List.length_eq_zero_iff.1 h1] at hx; simp at hx
  · simp only [Value.slice.injEq] at hv
    refine ⟨_, hv.1, fun j v hj => ?_⟩
    have := flat_get hk xs i x j v hx hj
    rw [add_lit, add_lit, cell_blk hg, Nat.zero_add]
    rw [← ht, List.getElem?_take] at this
    split at this
    · simpa using this
    · cases this
end
section
variable {α : Type} {enc : α → List Value} {k : Nat} {P : Program} {t e : TypeId} {z : Value} {bytes : Nat} {w : World} {base : Nat} {l : Sl} {xs : List α}
theorem append_runK (el : ElK enc k P t e z bytes) (h : OwnK enc k w base e l xs) (ad : Addr) (c : Nat) (ys : List α) (hr : ReadsK enc k w (some ad) ys)
    (hm : xs.length + ys.length ≤ maxLen) (hb : (xs.length + ys.length) * bytes ≤ 140737488355328) (hbase : base ≤ w.heap.size) :
    ∃ w' l', (Builtin.append_ #[t, t] t #[.slice l.a l.len l.cap, .slice (some ad) ys.length c]).run P w = .ok (.slice l'.a l'.len l'.cap) w' ∧ OwnK enc k w' base e l' (xs ++ ys) ∧ Fr (At l) w w' := by
  obtain ⟨i, hi, hi2⟩ := Option.map_eq_some_iff.1 el.info
  simp only [Prod.mk.injEq] at hi2
  obtain ⟨v', w', hr', ho, hg, _⟩ := run_append_own (P := P) w base t t e i z k bytes el.sl hi hi2.1 hi2.2.1 hi2.2.2 el.one el.pos (.slice l.a l.len l.cap) l.len (xs.flatMap enc) h.2 ad ys.length c (ys.flatMap enc) (flat_len el.len ys)
    (hr.flat el.len el.pos) (fun u hu => by obtain ⟨x, _, hx⟩ := List.mem_flatMap.1 hu; exact el.cells x u hx) (by rw [h.len]; exact hm) (by rw [h.len]; exact hb) hbase
  have hfr : Fr (At l) w w' := (Fr.grown hg).mono fun q _ hq => by
    cases ha : l.a with
    | none => simp [Value.ownBlock, ha] at hq
    | some y => simp [Value.ownBlock, ha] at hq; exact ⟨y, ha, hq⟩
  have hshape : ∃ a c, v' = .slice a (l.len + ys.length) c := by
    rcases ho.2 with ⟨h1, h2⟩ | ⟨g, cap, cur, h1, _⟩
    · exact ⟨none, 0, by rw [h1, h2]⟩
    · exact ⟨_, _, h1⟩
  obtain ⟨a, c', rfl⟩ := hshape
  refine ⟨w', ⟨a, l.len + ys.length, c'⟩, hr', ⟨by rw [List.length_append, h.len], ?_⟩, hfr⟩
  rw [List.flatMap_append]
  exact ho
theorem since_runK (el : ElK enc k P t e z bytes) (h : OwnK enc k w base e l xs) (ad : Addr) (c : Nat) (ys : List α) (hr : ReadsK enc k w (some ad) ys)
    (hm : xs.length + ys.length ≤ maxLen) (hb : (xs.length + ys.length) * bytes ≤ 140737488355328) {l' : Sl} {w' : World}
    (hrun : (Builtin.append_ #[t, t] t #[.slice l.a l.len l.cap, .slice (some ad) ys.length c]).run P w = .ok (.slice l'.a l'.len l'.cap) w') : Since w l l' := by
  obtain ⟨i, hi, hi2⟩ := Option.map_eq_some_iff.1 el.info
  simp only [Prod.mk.injEq] at hi2
  obtain ⟨hz, hs1, hby⟩ := hi2
  have hlen := h.1
  have hcells : ∀ u ∈ ys.flatMap enc, u.oneCell' = true := fun u hu => by obtain ⟨x, _, hx⟩ := List.mem_flatMap.1 hu; exact el.cells x u hx
  rcases h.2.2 with ⟨hv, hl0⟩ | ⟨g, cap, cur, hv, hbg, hg, hl, hmx, hs, ht⟩
  · have h0 : OwnK enc k w w.heap.size e l xs := ⟨h.1, h.2.1, .inl ⟨hv, hl0⟩⟩
    obtain ⟨w2, l2, hr2, ho2, _⟩ := append_runK el h0 ad c ys hr hm hb (Nat.le_refl _)
    rw [hr2] at hrun
    simp only [Result.ok.injEq, Value.slice.injEq] at hrun
    obtain ⟨⟨e1, _, _⟩, rfl⟩ := hrun
    intro y hy
    exact .inr (ho2.blk (by rw [e1]; exact hy)).1
  · simp only [Value.slice.injEq] at hv
    obtain ⟨ha, _, hcap⟩ := hv
    have hml : maxLen ≤ 9223372036854775807 := by decide
    by_cases hroom : l.len + ys.length ≤ cap
    · have hfit : l.len * i.size + (ys.flatMap enc).length ≤ cur.size := by
        rw [flat_len el.len, hs1, hs, ← Nat.add_mul]; exact Nat.mul_le_mul_right _ hroom
      have hr2 := run_append_room (P := P) w t t e i el.sl hi g l.len cap cur hg ad ys.length c (ys.flatMap enc) (by rw [flat_len el.len, hs1]) (hr.flat el.len el.pos) hcells hroom hfit
      rw [ha, hcap, hr2] at hrun
      simp only [Result.ok.injEq, Value.slice.injEq] at hrun
      intro y hy
      refine .inl ⟨y, ?_, rfl⟩
      rw [ha, hrun.1.1]; exact hy
    · have holds : ∀ j u, (xs.flatMap enc)[j]? = some u → w.cell? ((⟨g, 0, none⟩ : Addr).add j) = some u := h.2.cells (g := g) (by rw [ha]; rfl)
      have hr2 := run_append_grow (P := P) w t t e i z el.sl hi hz ⟨g, 0, none⟩ l.len cap (xs.flatMap enc) (by rw [flat_len el.len, hs1, hlen]) holds ad ys.length c (ys.flatMap enc) (by rw [flat_len el.len, hs1]) (hr.flat el.len el.pos) (by omega) (by omega) (growslice_fits (by omega) (by rw [hby, ← hlen]; exact hb))
      rw [ha, hcap, hr2] at hrun
      simp only [Result.ok.injEq, Value.slice.injEq] at hrun
      intro y hy
      rw [← hrun.1.1] at hy
      cases hy
      exact .inr (Nat.le_refl _)
/-- 'out = append(out, v)'. -/
theorem append_oneK (el : ElK enc k P t e z bytes) (h : OwnK enc k w base e l xs) {x : α}
    (hm : xs.length + 1 ≤ maxLen) (hb : (xs.length + 1) * bytes ≤ 140737488355328) (hbase : base ≤ w.heap.size) {w2 : World} (hw2 : w2 = w.alloc (.cells (enc x).toArray e)) :
    ∃ w' l', (Builtin.append_ #[t, t] t #[.slice l.a l.len l.cap, .slice (some ⟨w.heap.size, 0, none⟩) 1 1]).run P w2 = .ok (.slice l'.a l'.len l'.cap) w' ∧ OwnK enc k w' base e l' (xs ++ [x]) ∧ Fr (At l) w w' ∧ Since w l l' := by
  subst hw2
  have h2 : OwnK enc k (w.alloc (.cells (enc x).toArray e)) base e l xs := h.keep (.alloc (fun _ => False) _ _) (by simp)
  have hr : ReadsK enc k (w.alloc (.cells (enc x).toArray e)) (some ⟨w.heap.size, 0, none⟩) [x] := fun i y hi => by
    cases i with
    | zero =>
      simp only [List.getElem?_cons_zero, Option.some.injEq] at hi
      subst hi
      refine ⟨_, rfl, fun j v hv => ?_⟩
      rw [Nat.zero_mul, add_lit, add_lit, cell_blk (alloc_new w _), Nat.zero_add]; simpa using hv
    | succ i => simp at hi
  obtain ⟨w', l', hr', ho, hf⟩ := append_runK el h2 ⟨w.heap.size, 0, none⟩ 1 [x] hr hm hb (by simp; omega)
  refine ⟨w', l', hr', ho, (Fr.alloc _ _ _).trans' hf, fun y hy => ?_⟩
  rcases since_runK el h2 ⟨w.heap.size, 0, none⟩ 1 [x] hr hm hb hr' y hy with hx | hn
  · exact .inl hx
  · simp only [World.alloc, Array.size_push] at hn
    exact .inr (by omega)
/-- 'append(out, xs...)'. -/
theorem append_allK (el : ElK enc k P t e z bytes) (h : OwnK enc k w base e l xs) {src : Option Addr} (c : Nat) {ys : List α} (hr : ReadsK enc k w src ys)
    (hm : xs.length + ys.length ≤ maxLen) (hb : (xs.length + ys.length) * bytes ≤ 140737488355328) (hbase : base ≤ w.heap.size) {m : Nat} (hlen : ys.length = m) :
    ∃ w' l', (Builtin.append_ #[t, t] t #[.slice l.a l.len l.cap, .slice src m c]).run P w = .ok (.slice l'.a l'.len l'.cap) w' ∧ OwnK enc k w' base e l' (xs ++ ys) ∧ Fr (At l) w w' := by
  subst hlen
  cases src with
  | some ad => exact append_runK el h ad c ys hr hm hb hbase
  | none =>
    have hn : ys = [] := by
      cases ys with
      | nil => rfl
      | cons v r => obtain ⟨y, hy, _⟩ := hr 0 v rfl; cases hy
    subst hn
    refine ⟨w, l, ?_, by simpa using h, .refl _ _⟩
    obtain ⟨i, hi, hi2⟩ := Option.map_eq_some_iff.1 el.info
    have hcap := h.cap
    cases ha : l.a <;> simp [Builtin.append_, run_underlying el.sl, Go.sizeOf, typeInfo, hi, Builtin.lenOf, Builtin.firstCells, hcap, storeCells]
end
end Vc
namespace Vc
open Go
section
variable {α : Type} {enc : α → List Value} {k : Nat} {w : World} {base : Nat} {e : TypeId} {l : Sl} {xs : List α}
end
end Vc
namespace Vc
open Go

/-- What stands under a key. -/
def mlook : List (ByteArray × Value) → ByteArray → Option Value
  | [], _ => none
  | (a, v) :: r, k => if a = k then some v else mlook r k
/-- The same entries with this one. -/
def mupd : List (ByteArray × Value) → ByteArray → Value → List (ByteArray × Value)
  | [], k, v => [(k, v)]
  | (a, x) :: r, k, v => if a = k then (k, v) :: r else (a, x) :: mupd r k v
abbrev entKV (e : MapEntry) : Value × Value := (e.key, e.val)
abbrev strKV (x : ByteArray × Value) : Value × Value := (.string x.1, x.2)
/-- A map with these entries. -/
def MapOf (w : World) (r : Nat) (l : List (ByteArray × Value)) : Prop := ∃ es clock, w.heap[r]? = some (.map es clock) ∧ MapKept.Stamped es clock ∧ es.toList.map entKV = l.map strKV
theorem MapOf.keep {w w2 : World} {r : Nat} {l : List (ByteArray × Value)} (h : MapOf w r l) {X : Nat → Prop} (hf : Fr X w w2) (hx : ¬ X r) : MapOf w2 r l := by
  obtain ⟨es, c, h1, h2, h3⟩ := h
  exact ⟨es, c, hf.keep h1 hx, h2, h3⟩
theorem MapOf.lt {w : World} {r : Nat} {l : List (ByteArray × Value)} (h : MapOf w r l) : r < w.heap.size := by
  obtain ⟨es, c, h1, _⟩ := h
  exact lt_blk h1
theorem MapOf.new {w : World} : MapOf (w.alloc (.map #[] 0)) w.heap.size [] := ⟨#[], 0, alloc_new _ _, MapKept.stamped_empty 0, rfl⟩
theorem findNow_look (k : ByteArray) : ∀ (es : List MapEntry) (l : List (ByteArray × Value)) (i : Nat), es.map entKV = l.map strKV →
    (Instr.findNow .string (.string k) es i = some none ∧ mlook l k = none ∧ (∀ v, mupd l k v = l ++ [(k, v)]) ∧ ∀ x ∈ es, x.key ≠ .string k) ∨
    ∃ j e, Instr.findNow .string (.string k) es i = some (some (i + j, e.val)) ∧ es[j]? = some e ∧ e.key = .string k ∧ mlook l k = some e.val ∧
      ∀ v, (mupd l k v).map strKV = (es.map entKV).set j (.string k, v)
  | [], [], _, _ => .inl ⟨rfl, rfl, fun _ => rfl, by simp⟩
  | [], _ :: _, _, h => by cases h
  | _ :: _, [], _, h => by cases h
  | e :: es, (a, x) :: l, i, h => by
    simp only [List.map_cons, List.cons.injEq, Prod.mk.injEq] at h
    obtain ⟨⟨hk, hv⟩, ht⟩ := h
    by_cases hak : a = k
    · subst hak
      refine .inr ⟨0, e, ?_, rfl, hk, by rw [mlook, if_pos rfl, hv], fun v => ?_⟩
      · have : (a == a) = true := (MapKept.bytes_beq a a).2 rfl
        simp [Instr.findNow, Instr.sameNow, hk, this]
      · rw [mupd, if_pos rfl]; simp [ht]
    · have hne : (k == a) = false := by
        rw [Bool.eq_false_iff]; intro hh; exact hak ((MapKept.bytes_beq k a).1 hh).symm
      have hstep : Instr.findNow .string (.string k) (e :: es) i = Instr.findNow .string (.string k) es (i + 1) := by
        simp [Instr.findNow, Instr.sameNow, hk, hne]
      rcases findNow_look k es l (i + 1) ht with ⟨h1, h2, h3, h4⟩ | ⟨j, e', h1, h2, h3, h4, h5⟩
      · refine .inl ⟨by rw [hstep, h1], by rw [mlook, if_neg hak, h2], fun v => by rw [mupd, if_neg hak, h3]; rfl, fun y hy => ?_⟩
        cases hy with
        | head => rw [hk]; intro hh; exact hak (Value.string.inj hh)
        | tail _ hy => exact h4 y hy
      · refine .inr ⟨j + 1, e', by rw [hstep, h1, show i + 1 + j = i + (j + 1) by omega], by simpa using h2, h3, by rw [mlook, if_neg hak, h4], fun v => ?_⟩
        rw [mupd, if_neg hak, List.map_cons, h5]
        simp [hk, hv]
section
variable {P : Program} {w : World} {mt kt et : TypeId} {r : Nat} {l : List (ByteArray × Value)}
/-- What is under a key, and whether there is one. -/
theorem map_lookup (hm : P.underlying mt = some (.map kt et)) (hd : P.underlying kt = some .string) {z : Value} (hz : (zeroValue et).run P w = .ok z w) (h : MapOf w r l) (k : ByteArray) (c : Bool) :
    (Instr.lookup mt (.map (some r)) (.string k) c).run P w = .ok (match mlook l k with | some v => (if c then .tuple #[v, .bool true] else v) | none => (if c then .tuple #[z, .bool false] else z)) w := by
  obtain ⟨es, clock, hb, hs, hl⟩ := h
  have hk : MapKept.IsKey .string (.string k) := by simp [MapKept.IsKey]
  rcases findNow_look k es.toList l 0 hl with ⟨h1, h2, _, _⟩ | ⟨j, e, h1, _, _, h4, _⟩
  · rw [h2]
    simp [Instr.lookup, run_underlying hm, MapKept.run_getObj_map hb, MapKept.run_checkKey hd hk, MapKept.run_findKey hd h1, hz, Result.andThen]
  · rw [h4]
    simp [Instr.lookup, run_underlying hm, MapKept.run_getObj_map hb, MapKept.run_checkKey hd hk, MapKept.run_findKey hd h1, Result.andThen]
/-- An assignment. -/
theorem map_update (hm : P.underlying mt = some (.map kt et)) (hd : P.underlying kt = some .string) (h : MapOf w r l) (k : ByteArray) (v : Value) :
    ∃ w', (Instr.mapUpdate mt (.map (some r)) (.string k) v).run P w = .ok () w' ∧ MapOf w' r (mupd l k v) ∧ Fr (· = r) w w' := by
  obtain ⟨es, clock, hb, hs, hl⟩ := h
  have hk : MapKept.IsKey .string (.string k) := by simp [MapKept.IsKey]
  have hfr : ∀ o : Obj, Fr (· = r) w { w with heap := w.heap.setIfInBounds r o } := fun o => ⟨rfl, rfl, rfl, by simp, fun q hq hx => (MapKept.heap_set hb).2 q hx⟩
  rcases findNow_look k es.toList l 0 hl with ⟨h1, h2, h3, h4⟩ | ⟨j, e, h1, h2, h3, h4, h5⟩
  · refine ⟨_, by simp [Instr.mapUpdate, run_underlying hm, MapKept.run_getObj_map hb, MapKept.run_checkKey hd hk, MapKept.run_findKey hd h1, MapKept.run_setObj_map _ hb, Result.andThen]; rfl, ⟨_, _, (MapKept.heap_set hb).1, MapKept.stamped_push hs h4, ?_⟩, hfr _⟩
    rw [h3, Array.toList_push, List.map_append, List.map_append, hl]
    rfl
  · have hj : es[j]? = some e := by simpa using h2
    refine ⟨{ w with heap := w.heap.setIfInBounds r (.map (es.modify j fun e => { key := .string k, val := v, born := e.born }) clock) }, by simp [Instr.mapUpdate, run_underlying hm, MapKept.run_getObj_map hb, MapKept.run_checkKey hd hk, MapKept.run_findKey hd h1, hj, h3, MapKept.run_keyThatStays hk, MapKept.run_setObj_map _ hb, Result.andThen], ⟨_, _, (MapKept.heap_set hb).1, MapKept.stamped_modify hs _ _ (fun _ _ => rfl) (fun e' _ he' => by rw [hj] at he'; cases he'; exact h3.symm), ?_⟩, hfr _⟩
    rw [h5]
    refine List.ext_getElem? fun q => ?_
    rw [List.getElem?_set]
    simp only [List.getElem?_map, Array.getElem?_toList, Array.getElem?_modify, List.length_map, Array.length_toList]
    by_cases hq : j = q
    · subst hq
      rw [if_pos rfl, if_pos rfl, if_pos (Array.getElem?_eq_some_iff.1 hj).1, hj]; rfl
    · rw [if_neg hq, if_neg hq]
end
/-- What holds of all entries holds of them and the new one. -/
theorem mupd_all {p : ByteArray × Value → Prop} {k : ByteArray} {v : Value} (hv : p (k, v)) : ∀ l : List (ByteArray × Value), (∀ x ∈ l, p x) → ∀ x ∈ mupd l k v, p x
  | [], _, x, hx => by simp only [mupd, List.mem_singleton] at hx; rw [hx]; exact hv
  | (a, y) :: r, h, x, hx => by
    rw [mupd] at hx
    split at hx
    · rcases List.mem_cons.1 hx with rfl | hx
      · exact hv
      · exact h x (.tail _ hx)
    · rcases List.mem_cons.1 hx with rfl | hx
      · exact h _ (.head _)
      · exact mupd_all hv r (fun z hz => h z (.tail _ hz)) x hx
theorem mlook_mem {k : ByteArray} {v : Value} : ∀ {l : List (ByteArray × Value)}, mlook l k = some v → (k, v) ∈ l
  | (a, y) :: r, h => by
    rw [mlook] at h
    split at h
    · rename_i he; cases h; rw [he]; exact .head _
    · exact .tail _ (mlook_mem h)
end Vc
namespace Vc
open Go

/-- An iterator over a map of these entries; those are still to come. -/
def MapIt (w : World) (it mb : Nat) (l ys : List (ByteArray × Value)) : Prop :=
  ∃ es clock since c0 seen, w.heap[it]? = some (.mapIter (some mb) since seen c0) ∧ w.heap[mb]? = some (.map es clock) ∧ MapKept.Stamped es clock ∧ (∀ x ∈ es.toList, x.born < since) ∧ since ≤ c0 ∧ since ≤ clock ∧
    es.toList.map entKV = l.map strKV ∧ (leftOf es seen).toList.map entKV = ys.map strKV
/-- How many are to come. -/
def mapLeft (it mb : Nat) (w : World) : Nat := match w.heap[it]?, w.heap[mb]? with
  | some (.mapIter _ _ seen _), some (.map es _) => (leftOf es seen).size
  | _, _ => 0
section
variable {P : Program} {w w2 : World} {it mb : Nat} {l ys : List (ByteArray × Value)}
theorem MapIt.keep (h : MapIt w it mb l ys) {X : Nat → Prop} (hf : Fr X w w2) (h1 : ¬ X it) (h2 : ¬ X mb) : MapIt w2 it mb l ys := by
  obtain ⟨es, clock, since, c0, seen, a, b, c⟩ := h
  exact ⟨es, clock, since, c0, seen, hf.keep a h1, hf.keep b h2, c⟩
theorem MapIt.map (h : MapIt w it mb l ys) : MapOf w mb l := by
  obtain ⟨es, clock, since, c0, seen, a, b, c, _, _, _, d, _⟩ := h
  exact ⟨es, clock, b, c, d⟩
theorem MapIt.lt (h : MapIt w it mb l ys) : it < w.heap.size := by
  obtain ⟨es, clock, since, c0, seen, a, _⟩ := h
  exact lt_blk a
theorem MapIt.left (h : MapIt w it mb l ys) : mapLeft it mb w = ys.length := by
  obtain ⟨es, clock, since, c0, seen, a, b, _, _, _, _, _, d⟩ := h
  unfold mapLeft
  rw [a, b]
  have := congrArg List.length d
  simpa using this
theorem MapIt.new {mt kt et : TypeId} (hm : P.underlying mt = some (.map kt et)) (h : MapOf w mb l) :
    (Instr.range mt (.map (some mb))).run P w = .ok (.pointer (some ⟨w.heap.size, 0, none⟩)) (w.alloc (.mapIter (some mb) (match w.heap[mb]? with | some (.map _ c) => c | _ => 0) #[] (match w.heap[mb]? with | some (.map _ c) => c | _ => 0))) ∧
      MapIt (w.alloc (.mapIter (some mb) (match w.heap[mb]? with | some (.map _ c) => c | _ => 0) #[] (match w.heap[mb]? with | some (.map _ c) => c | _ => 0))) w.heap.size mb l l := by
  obtain ⟨es, clock, hb, hs, hl⟩ := h
  rw [hb]
  refine ⟨run_range_map w mt kt et mb es clock hm hb, es, clock, clock, clock, #[], alloc_new _ _, (Fr.alloc (fun _ => False) _ _).keep hb (by simp), hs, hs.1, Nat.le_refl _, Nat.le_refl _, hl, ?_⟩
  have : leftOf es #[] = es := by unfold leftOf; simp
  rw [this]; exact hl
theorem left_push {es : Array MapEntry} {clock : Nat} {seen : Array Nat} (hs : MapKept.Stamped es clock) {e : MapEntry} (he : e ∈ (leftOf es seen).toList) :
    ∃ pre post, (leftOf es seen).toList = pre ++ e :: post ∧ (leftOf es (seen.push e.born)).toList = pre ++ post := by
  obtain ⟨pre, post, hL⟩ := List.append_of_mem he
  refine ⟨pre, post, hL, ?_⟩
  have e1 : (leftOf es (seen.push e.born)).toList = (leftOf es seen).toList.filter fun x => !(x.born == e.born) := by
    unfold leftOf
    rw [Array.toList_filter, Array.toList_filter, List.filter_filter]
    refine List.filter_congr fun x _ => ?_
    rw [contains_push]
    cases seen.contains x.born <;> cases (x.born == e.born) <;> rfl
  have hn : ((leftOf es seen).toList.map (·.born)).Nodup := by
    unfold leftOf
    rw [Array.toList_filter]
    exact hs.2.1.sublist (List.filter_sublist.map _)
  rw [e1, hL, List.filter_append, List.filter_cons]
  rw [hL, List.map_append, List.map_cons] at hn
  have hn' := List.nodup_append.1 hn
  have h2 := List.nodup_cons.1 hn'.2.1
  rw [if_neg (by simp)]
  congr 1
  · refine List.filter_eq_self.2 fun x hx => ?_
    have := hn'.2.2 x.born (List.mem_map.2 ⟨x, hx, rfl⟩) e.born (.head _)
    simpa using this
  · refine List.filter_eq_self.2 fun x hx => ?_
    have : x.born ≠ e.born := fun hh => h2.1 (by rw [← hh]; exact List.mem_map.2 ⟨x, hx, rfl⟩)
    simpa using this
/-- The next step: none is left; or one comes, whichever, and the others are left. -/
theorem MapIt.next (h : MapIt w it mb l ys) (ty : TypeId) :
    (ys = [] ∧ (Instr.next (.pointer (some ⟨it, 0, none⟩)) false ty).run P w = .ok (.tuple #[.bool false]) w) ∨
    ∃ pre x post w', ys = pre ++ x :: post ∧ (Instr.next (.pointer (some ⟨it, 0, none⟩)) false ty).run P w = .ok (.tuple #[.bool true, .string x.1, x.2]) w' ∧ MapIt w' it mb l (pre ++ post) ∧ Fr (· = it) w w' ∧
      (Instr.entry (.pointer (some ⟨it, 0, none⟩))).run P w' = .ok (.tuple #[.string x.1, x.2]) w' := by
  obtain ⟨es, clock, since, c0, seen, hi, hb, hs, hold, hsc, hcl, hl, hy⟩ := h
  rcases run_next_at (P := P) w ty it mb since c0 seen es clock hi hb hold hsc with ⟨h0, hr⟩ | ⟨e, he, w1, hw1, hr⟩
  · refine .inl ⟨?_, hr⟩
    have := congrArg List.length hy
    simp only [List.length_map, Array.length_toList] at this
    exact List.length_eq_zero_iff.1 (by omega)
  · obtain ⟨pre, post, hL, hL'⟩ := left_push hs he
    rw [hL, List.map_append, List.map_cons] at hy
    obtain ⟨ypre, yr, rfl, h1, h2⟩ := List.map_eq_append_iff.1 hy.symm
    obtain ⟨x, ypost, rfl, h3, h4⟩ := List.map_eq_cons_iff.1 h2
    simp only [Prod.mk.injEq] at h3
    have hmi : it ≠ mb := by rintro rfl; rw [hi] at hb; cases hb
    have hfr : Fr (· = it) w (ChangeMaps.setBlock w1 it (.mapIter (some mb) since (seen.push e.born) clock)) := by
      have hh : w1.heap = w.heap ∧ w1.os = w.os ∧ w1.tape = w.tape ∧ w1.output = w.output := by rcases hw1 with rfl | rfl <;> exact ⟨rfl, rfl, rfl, rfl⟩
      exact ⟨hh.2.1, hh.2.2.1, hh.2.2.2, by simp [ChangeMaps.setBlock, hh.1], fun k hk hx => by
        show (w1.heap.setIfInBounds it _)[k]? = _
        rw [hh.1, Array.getElem?_setIfInBounds, if_neg (fun e => hx e.symm)]⟩
    have hni : (ChangeMaps.setBlock w1 it (.mapIter (some mb) since (seen.push e.born) clock)).heap[it]? = some (.mapIter (some mb) since (seen.push e.born) clock) := by
      have hlt := lt_blk hi
      have hh : w1.heap = w.heap := by rcases hw1 with rfl | rfl <;> rfl
      show (w1.heap.setIfInBounds it _)[it]? = _
      rw [hh, Array.getElem?_setIfInBounds, if_pos rfl, if_pos hlt]
    have hnb := hfr.keep hb (fun hh => hmi hh.symm)
    refine .inr ⟨ypre, x, ypost, _, rfl, by rw [hr, h3.1, h3.2], ⟨es, clock, since, clock, seen.push e.born, hni, hnb, hs, hold, hcl, hcl, hl, ?_⟩, hfr, ?_⟩
    · rw [hL', List.map_append, List.map_append, h1, h4]
    · rw [run_entry_at (P := P) _ it mb since seen es clock e hni hnb (mem_left he).1 hs.2.1, h3.1, h3.2]
end
end Vc
