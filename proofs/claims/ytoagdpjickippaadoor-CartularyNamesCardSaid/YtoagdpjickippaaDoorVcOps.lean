/- One operation as a formula, and that the formula is enough. No condition: for all programs. -/
import Derived.Test.YtoagdpjickippaaDoorVcCore
import Derived.WalkKit
import Derived.Laws.StructEq
set_option linter.unusedVariables false
namespace Vc
open Go

section
variable (P : Program) (ty : Nat → Sh)

/-- The integer at a place of a text, nought beyond it. -/
def byteAt (s : ByteArray) (i : Int) : Int := ((s.data.toList[i.toNat]?).getD 0).toNat
def subA (a : Option Addr) (cap l sz : Nat) : Option Addr := if cap = l then a else a.map (·.add (l * sz))

/-- The same world but for draws. -/
def Drew (w w2 : World) : Prop := ∃ n, w2 = w.drewN n
/-- How an operation is asked: as it comes; where orders are open: it reads and calls what reads; it reads. -/
inductive Md where
  | full | quiet | still | held (S : World → Prop)
/-- What asks neither memory nor the tape. -/
def pureRun {α : Type} (P : Program) : Sem α → Option α
  | .pure a => some a
  | .program k => pureRun P (k P)
  | .mark _ k => pureRun P k
  | _ => none
theorem pureRun_spec {α : Type} {P : Program} : ∀ {s : Sem α} {a : α}, pureRun P s = some a → ∀ w, s.run P w = .ok a w
  | .pure _, _, h, w => by simp only [pureRun, Option.some.injEq] at h; subst h; rfl
  | .program k, _, h, w => by simp only [Sem.run]; exact pureRun_spec (s := k P) h w
  | .mark _ k, _, h, w => by simp only [Sem.run]; exact pureRun_spec (s := k) h w
/-- By the operation's own run, where it asks neither memory nor the tape; a call. -/
def run1 (q : Md) (o : Oper) (ρ : Operand → Value) (fl : Bool) (w : World) (K : Value → Bool → World → Prop) : Prop :=
  match pureRun P (execOp ρ o) with
  | some (.value v) => K v fl w
  | some (.enter f args) => match q with
    | .full => Calls P f args w fun e w'' => exSh (ty o.type) fun v => e = .returned v ∧ K v false w''
    | .quiet => exSh (ty o.type) fun v => (∀ w2, Drew w w2 → Calls P f args w2 fun e w'' => e = .returned v ∧ Drew w w'') ∧ K v false w
    | _ => False
  | _ => False
/-- A new block. -/
def runA (q : Md) (o : Oper) (ρ : Operand → Value) (fl : Bool) (w : World) (K : Value → Bool → World → Prop) : Prop :=
  match q with
  | .full => match (execOp ρ o).run P w with
    | .ok (.value v) w' => ∀ w2, w2 = w' → K v fl w2
    | _ => False
  | _ => False
/-- Whatever it comes to, that it comes to it is to be shown. -/
def runS (q : Md) (sh : Sh) (s : Sem Value) (w : World) (K : Value → Bool → World → Prop) : Prop :=
  match q with
  | .full => ∃ w', exSh sh fun v => s.run P w = .ok v w' ∧ K v false w'
  | .held S => exSh sh fun v => (∀ w2, S w2 → s.run P w2 = .ok v w2) ∧ K v false w
  | _ => False

/-- A range's next step: its end, or a key and a value. -/
def wNext (q : Md) (str : Bool) (sh : Sh) (s : Sem Value) (w : World) (K : Value → Bool → World → Prop) : Prop :=
  match q with
  | .full => (∃ w', s.run P w = .ok (.tuple #[.bool false]) w' ∧ K (.tuple #[.bool false]) false w') ∨
    (match str with
    | true => ∃ (w' : World) (p r : Int), s.run P w = .ok (.tuple #[.bool true, .int .i64 p, .int .i32 r]) w' ∧ K (.tuple #[.bool true, .int .i64 p, .int .i32 r]) false w'
    | false => ∃ (w' : World) (k v : Value), s.run P w = .ok (.tuple #[.bool true, k, v]) w' ∧ K (.tuple #[.bool true, k, v]) false w')
  | _ => False
/-- The key and the value of a range's step, the key a text. -/
def wEntry (q : Md) (s : Sem Value) (w : World) (K : Value → Bool → World → Prop) : Prop :=
  match q with
  | .full => ∃ (w' : World) (k : ByteArray) (v : Value), s.run P w = .ok (.tuple #[.string k, v]) w' ∧ K (.tuple #[.string k, v]) false w'
  | _ => False

def one (t : TypeId) : Bool := match P.underlying t with
  | some (.struct _) | some (.array _ _) | none => false
  | some _ => true
def size1 (t : TypeId) : Bool := match P.info? t with
  | some i => Nat.beq i.size 1
  | none => false

def wLoad (q : Md) (t : TypeId) (x : Value) (w : World) (K : Value → Bool → World → Prop) : Prop :=
  match x with
  | .pointer (some a) => match one P t with
    | true => match ty t with
      | .one l => match q with
        | .held S => ∃ x : l.T, (∀ w2, S w2 → w2.cell? a = some (l.mk x)) ∧ K (l.mk x) l.flag w
        | _ => ∃ x : l.T, w.cell? a = some (l.mk x) ∧ K (l.mk x) l.flag w
      | _ => False
    | false => match q with
      | .full => exSh (ty t) fun v => (loadVar t a).run P w = .ok v w ∧ K v false w
      | .held S => exSh (ty t) fun v => (∀ w2, S w2 → (loadVar t a).run P w2 = .ok v w2) ∧ K v false w
      | _ => False
  | _ => False
/-- A cell that may be written. -/
def Wr (w : World) (a : Addr) : Prop := (∃ v, w.cell? a = some v) ∧ w.frozen? a = false
def wStore (q : Md) (t : TypeId) (x v : Value) (w : World) (K : Value → Bool → World → Prop) : Prop :=
  match q with
  | .quiet | .still | .held _ => False
  | .full =>
  match x with
  | .pointer (some a) => match size1 P t with
    | true => match v with
      | .agg _ | .tuple _ => False
      | _ => Wr w a ∧ ∀ w2, w2 = w.setCell a v → K undef false w2
    | false => ∃ w', (storeVar t a v).run P w = .ok () w' ∧ K undef false w'
  | _ => False
def wNil (x : Value) (f : Bool) (w : World) (K : Value → Bool → World → Prop) : Prop :=
  match f with
  | true => match x with
    | .pointer (some a) => K (.pointer (some a)) true w
    | _ => False
  | false => match x with
    | .pointer p => ∃ a, p = some a ∧ K (.pointer (some a)) true w
    | _ => False
def wIndex (q : Md) (o : Oper) (ρ : Operand → Value) (t : TypeId) (x i : Value) (w : World) (K : Value → Bool → World → Prop) : Prop :=
  match P.underlying t with
  | some .string => match x, i with
    | .string s, .int _ i => (0 ≤ i ∧ i < s.size) ∧ K (.int .u8 (byteAt s i)) false w
    | _, _ => False
  | _ => runS P q (ty o.type) (Instr.index t x i) w K
def wIndexAddr (t : TypeId) (x i : Value) (w : World) (K : Value → Bool → World → Prop) : Prop :=
  match P.underlying t with
  | some (.slice e) => match x, i with
    | .slice b len _, .int _ i => (0 ≤ i ∧ i < len) ∧ ∃ a, b = some a ∧ match P.info? e with
      | some ti => K (.pointer (some (a.add (i.toNat * ti.size)))) true w
      | none => False
    | _, _ => False
  | some (.array n e) => match x, i with
    | .pointer (some a), .int _ i => (0 ≤ i ∧ i < n) ∧ match P.info? e with
      | some ti => K (.pointer (some (a.add (i.toNat * ti.size)))) true w
      | none => False
    | _, _ => False
  | _ => False
def wSlice (t : TypeId) (x : Value) (lo hi mx : Option Value) (w : World) (K : Value → Bool → World → Prop) : Prop :=
  match mx with
  | some _ => False
  | none =>
  match P.underlying t with
  | some .string => match x with
    | .string s => match lo, hi with
      | none, none => K (.string (s.extract 0 s.size)) false w
      | some (.int _ l), none => (0 ≤ l ∧ l ≤ s.size) ∧ K (.string (s.extract l.toNat s.size)) false w
      | none, some (.int _ h) => (0 ≤ h ∧ h ≤ s.size) ∧ K (.string (s.extract 0 h.toNat)) false w
      | some (.int _ l), some (.int _ h) => (0 ≤ l ∧ l ≤ h ∧ h ≤ s.size) ∧ K (.string (s.extract l.toNat h.toNat)) false w
      | _, _ => False
    | _ => False
  | some (.slice e) => match x, P.info? e with
    | .slice a len cap, some ti => match lo, hi with
      | none, none => K (.slice (subA a cap 0 ti.size) len cap) false w
      | some (.int _ l), none => (0 ≤ l ∧ l ≤ len) ∧ K (.slice (subA a cap l.toNat ti.size) (len - l.toNat) (cap - l.toNat)) false w
      | none, some (.int _ h) => (0 ≤ h ∧ h ≤ cap) ∧ K (.slice (subA a cap 0 ti.size) h.toNat cap) false w
      | some (.int _ l), some (.int _ h) => (0 ≤ l ∧ l ≤ h ∧ h ≤ cap) ∧ K (.slice (subA a cap l.toNat ti.size) (h.toNat - l.toNat) (cap - l.toNat)) false w
      | _, _ => False
    | _, _ => False
  | some (.array n e) => match x, P.info? e with
    | .pointer (some a), some ti => match lo, hi with
      | none, none => K (.slice (subA (some a) n 0 ti.size) n n) false w
      | some (.int _ l), none => (0 ≤ l ∧ l ≤ n) ∧ K (.slice (subA (some a) n l.toNat ti.size) (n - l.toNat) (n - l.toNat)) false w
      | none, some (.int _ h) => (0 ≤ h ∧ h ≤ n) ∧ K (.slice (subA (some a) n 0 ti.size) h.toNat n) false w
      | some (.int _ l), some (.int _ h) => (0 ≤ l ∧ l ≤ h ∧ h ≤ n) ∧ K (.slice (subA (some a) n l.toNat ti.size) (h.toNat - l.toNat) (n - l.toNat)) false w
      | _, _ => False
    | _, _ => False
  | _ => False
def sameK : IntKind → IntKind → Bool
  | .i8, .i8 | .i16, .i16 | .i32, .i32 | .i64, .i64 | .u8, .u8 | .u16, .u16 | .u32, .u32 | .u64, .u64 => true
  | _, _ => false
theorem sameK_spec {a b : IntKind} (h : sameK a b = true) : a = b := by cases a <;> cases b <;> first | rfl | cases h
def isNilP : Operand → Bool
  | .const (.pointer none) => true
  | _ => false
def isNilS : Operand → Bool
  | .const (.slice none 0 0) => true
  | _ => false
/-- Two parts of one kind, held against one another. -/
def leafEq : Value → Value → Option Bool
  | .int k a, .int k' b => match sameK k k' with
    | true => some (a == b)
    | false => none
  | .string a, .string b => some (a.toList == b.toList)
  | .bool a, .bool b => some (a == b)
  | _, _ => none
def allEq : List Value → List Value → Option Bool
  | [], [] => some true
  | [x], [y] => leafEq x y
  | x :: r, y :: q => match leafEq x y with
    | some a => match allEq r q with
      | some b => some (a && b)
      | none => none
    | none => none
  | _, _ => none
def leafT : Option TypeDesc → Value → Bool
  | some (.int _), .int _ _ => true
  | some .string, .string _ => true
  | some .bool, .bool _ => true
  | _, _ => false
def fieldsOK (P : Program) : Nat → List Field → List Value → Bool
  | _, [], [] => true
  | i, f :: fs, v :: vs => match f.name != "_" with
    | true => match Nat.beq f.offset i with
      | true => match leafT (P.underlying f.type) v with
        | true => fieldsOK P (i + 1) fs vs
        | false => false
      | false => false
    | false => false
  | _, _, _ => false
/-- A struct of integers, texts and bools alone. -/
def flatB (P : Program) (t : TypeId) (vs : List Value) : Bool := match P.underlying t with
  | some (.struct fs) => match P.stoodInHeld t with
    | true => false
    | false => match P.eqGuardType P.depth t with
      | true => false
      | false => fieldsOK P 0 fs.toList vs
  | _ => false
def wAggEq (neg : Bool) (t : TypeId) (xs : Array Value) (y : Value) (w : World) (K : Value → Bool → World → Prop) : Prop :=
  match y with
  | .agg ys => match flatB P t xs.toList with
    | true => match allEq xs.toList ys.toList with
      | some b => match neg with
        | true => K (.bool (!b)) false w
        | false => K (.bool b) false w
      | none => False
    | false => False
  | _ => False
def wBin (q : Md) (o : Oper) (ρ : Operand → Value) (op : BinOp) (t : TypeId) (yo : Operand) (x y : Value) (w : World) (K : Value → Bool → World → Prop) : Prop :=
  match op with
  | .quo => match x, y with
    | .int k a, .int k' b => match sameK k k' with
      | true => b ≠ 0 ∧ K (.int k (k.wrap (a.tdiv b))) false w
      | false => False
    | _, _ => False
  | .rem => match x, y with
    | .int k a, .int k' b => match sameK k k' with
      | true => b ≠ 0 ∧ K (.int k (a.tmod b)) false w
      | false => False
    | _, _ => False
  | .shl => match x, y with
    | .int k a, .int _ b => 0 ≤ b ∧ K (.int k (k.wrap (a * 2 ^ (min b.toNat k.bits)))) false w
    | _, _ => False
  | .shr => match x, y with
    | .int k a, .int _ b => 0 ≤ b ∧ K (.int k (a.fdiv (2 ^ (min b.toNat k.bits)))) false w
    | _, _ => False
  | .add => match x with
    | .string a => match y with
      | .string b => a.size + b.size ≤ 9223372036854775807 ∧ K (.string (a ++ b)) false w
      | _ => False
    | _ => run1 P ty q o ρ false w K
  | .eql => match x with
    | .pointer p => match isNilP yo with
      | true => match P.underlying t with
        | some (.pointer _) => K (.bool p.isNone) false w
        | _ => False
      | false => runS P q (.one .bool) (binOp op t x y) w K
    | .slice a _ _ => match isNilS yo with
      | true => match P.underlying t with
        | some (.slice _) => K (.bool a.isNone) false w
        | _ => False
      | false => False
    | .agg xs => wAggEq P false t xs y w K
    | _ => run1 P ty q o ρ false w K
  | .neq => match x with
    | .pointer p => match isNilP yo with
      | true => match P.underlying t with
        | some (.pointer _) => K (.bool (!p.isNone)) false w
        | _ => False
      | false => runS P q (.one .bool) (binOp op t x y) w K
    | .slice a _ _ => match isNilS yo with
      | true => match P.underlying t with
        | some (.slice _) => K (.bool (!a.isNone)) false w
        | _ => False
      | false => False
    | .agg xs => wAggEq P true t xs y w K
    | _ => run1 P ty q o ρ false w K
  | _ => run1 P ty q o ρ false w K
def wConv (q : Md) (o : Oper) (s d : TypeId) (x : Value) (w : World) (K : Value → Bool → World → Prop) : Prop :=
  match x with
  | .int _ n => match P.underlying d with
    | some (.int k) => K (.int k (k.wrap n)) false w
    | _ => runS P q (ty o.type) (convert s d x) w K
  | _ => runS P q (ty o.type) (convert s d x) w K

/-- The builtins that are met by their runs. -/
def bSem (b : Builtin) (ats : Array TypeId) (t : TypeId) (args : Array Value) : Option (Sem Value) :=
  match b with
  | .append => some (Builtin.append_ ats t args)
  | .copy => some (Builtin.copy_ ats t args)
  | .delete => some (Builtin.delete_ ats t args)
  | .cap => some (Builtin.cap_ ats t args)
  | .len => some (Builtin.len_ ats t args)
  | .clear => some (Builtin.clear_ ats t args)
  | _ => none
def wB (q : Md) (o : Oper) (ρ : Operand → Value) (b : Builtin) (c : Call) (w : World) (K : Value → Bool → World → Prop) : Prop :=
  match bSem b c.argTypes o.type (c.args.map ρ) with
  | some s => runS P q (ty o.type) s w K
  | none => False
/-- A builtin, or a call. -/
def wCall (q : Md) (o : Oper) (ρ : Operand → Value) (c : Call) (w : World) (K : Value → Bool → World → Prop) : Prop :=
  match c.callee with
  | .builtin b => match b with
    | .len => match c.args.toList with
      | [x] => match ρ x with
        | .string s => match c.argTypes.toList with
          | [t] => match P.underlying t with
            | some .string => K (.int .i64 s.size) false w
            | _ => False
          | _ => False
        | .slice _ n _ => match c.argTypes.toList with
          | [t] => match P.underlying t with
            | some (.slice _) => K (.int .i64 n) false w
            | _ => False
          | _ => False
        | _ => wB P ty q o ρ b c w K
      | _ => False
    | .min | .max => run1 P ty q o ρ false w K
    | _ => wB P ty q o ρ b c w K
  | _ => run1 P ty q o ρ false w K

def wOp1 (q : Md) (o : Oper) (ρ : Operand → Value) (φ : Operand → Bool) (w : World) (K : Value → Bool → World → Prop) : Prop :=
  match o.op with
  | .move x | .assign x => K (ρ x) (φ x) w
  | .load t x => wLoad P ty q t (ρ x) w K
  | .store t x v => wStore P q t (ρ x) (ρ v) w K
  | .nilCheck x => wNil (ρ x) (φ x) w K
  | .index t x i => wIndex P ty q o ρ t (ρ x) (ρ i) w K
  | .indexAddr t x i => wIndexAddr P t (ρ x) (ρ i) w K
  | .slice t x lo hi mx => wSlice P t (ρ x) (lo.map ρ) (hi.map ρ) (mx.map ρ) w K
  | .binOp op t x y _ => wBin P ty q o ρ op t y (ρ x) (ρ y) w K
  | .convert s d x => match P.underlying s with
    | some _ => wConv P ty q o s d (ρ x) w K
    | none => False
  | .call c => wCall P ty q o ρ c w K
  | .fieldAddr .. => run1 P ty q o ρ true w K
  | .alloc _ | .box .. => runA P q o ρ true w K
  | .buildSlice .. | .makeMap .. => runA P q o ρ false w K
  | .unOp _ _ x => run1 P ty q o ρ (φ x) w K
  | .build .. | .field .. | .extract .. | .makeFunc .. | .makeInterface .. => run1 P ty q o ρ false w K
  | .makeSlice t l c => runS P q (ty o.type) (Instr.makeSlice t (ρ l) (ρ c)) w K
  | .lookup t x i ok => runS P q (ty o.type) (Instr.lookup t (ρ x) (ρ i) ok) w K
  | .next it s => wNext P q s (ty o.type) (Instr.next (ρ it) s o.type) w K
  | .entry it => wEntry P q (Instr.entry (ρ it)) w K
  | .range t x => runS P q (.one .addr) (Instr.range t (ρ x)) w K
  | .mapUpdate t m k v | .insert t m k v => match q with
    | .quiet | .still | .held _ => False
    | .full => ∃ w', (Instr.mapUpdate t (ρ m) (ρ k) (ρ v)).run P w = .ok () w' ∧ K undef false w'
  | _ => False

/-- What it is enough for. -/
def Good (o : Oper) (ρ : Operand → Value) (w : World) (K : Value → Bool → World → Prop) : Prop :=
  match (execOp ρ o).run P w with
  | .ok (.value v) w' => ∃ b, K v b w'
  | .ok .skip w' => ∃ b, K undef b w'
  | .ok (.enter f args) w' => Calls P f args w' fun e w'' => ∃ v, e = .returned v ∧ ∃ b, K v b w''
  | _ => False
/-- .. and where it reads alone. -/
def GoodS (o : Oper) (ρ : Operand → Value) (w : World) (K : Value → Bool → World → Prop) : Prop :=
  ∃ v b, K v b w ∧ ∀ w2, w2.heap = w.heap → (execOp ρ o).run P w2 = .ok (.value v) w2
def GoodQ (o : Oper) (ρ : Operand → Value) (w : World) (K : Value → Bool → World → Prop) : Prop :=
  GoodS P o ρ w K ∨
  (∃ f args v b, K v b w ∧ (∀ w2, (execOp ρ o).run P w2 = .ok (.enter f args) w2) ∧ ∀ w2, Drew w w2 → Calls P f args w2 fun e w'' => e = .returned v ∧ Drew w w'')
def Gd (q : Md) (o : Oper) (ρ : Operand → Value) (w : World) (K : Value → Bool → World → Prop) : Prop :=
  match q with
  | .full => Good P o ρ w K
  | .quiet => GoodQ P o ρ w K
  | .still => GoodS P o ρ w K
  | .held S => ∃ v b, K v b w ∧ ∀ w2, S w2 → (execOp ρ o).run P w2 = .ok (.value v) w2
end

section
variable {P : Program} {q : Md} {ty : Nat → Sh} {t : TypeId} {o : Oper} {ρ : Operand → Value} {φ : Operand → Bool} {w : World} {K : Value → Bool → World → Prop}

theorem gd_mk {v : Value} {b : Bool} (hk : K v b w) (h : ∀ w2, (execOp ρ o).run P w2 = .ok (.value v) w2) : Gd P q o ρ w K := by
  cases q
  · show Good P o ρ w K
    unfold Good; rw [h w]; exact ⟨b, hk⟩
  · exact .inl ⟨v, b, hk, fun w2 _ => h w2⟩
  · exact ⟨v, b, hk, fun w2 _ => h w2⟩
  · exact ⟨v, b, hk, fun w2 _ => h w2⟩
theorem gd_of_run1 {f : Bool} (h : run1 P ty q o ρ f w K) : Gd P q o ρ w K := by
  unfold run1 at h
  split at h
  · rename_i v hr
    exact gd_mk h fun w2 => pureRun_spec hr w2
  · rename_i f args hr
    cases q
    · show Good P o ρ w K
      unfold Good
      rw [pureRun_spec hr w]
      exact h.mono fun _ _ hh => (exSh_out _ _ hh).imp fun _ hk => ⟨hk.1, _, hk.2⟩
    · obtain ⟨v, hc, hk⟩ := exSh_out _ _ h
      exact .inr ⟨f, args, v, _, hk, fun w2 => pureRun_spec hr w2, hc⟩
    · exact h.elim
    · exact h.elim
  · exact h.elim
theorem gd_of_runA {f : Bool} (h : runA P q o ρ f w K) : Gd P q o ρ w K := by
  unfold runA at h
  cases q
  · simp only at h
    show Good P o ρ w K
    unfold Good
    cases hr : (execOp ρ o).run P w with
    | halt x w' => simp [hr] at h
    | ok n w' =>
      simp only [hr] at h
      cases n <;> simp only at h
      case value v => exact ⟨_, h _ rfl⟩
  · exact h.elim
  · exact h.elim
  · exact h.elim
theorem good_of_skip {b : Bool} {w' : World} (h : (execOp ρ o).run P w = .ok .skip w') (hk : K undef b w') : Gd P .full o ρ w K := by
  show Good P o ρ w K
  unfold Good; rw [h]; exact ⟨b, hk⟩
theorem gd_of_runS {sh : Sh} {s : Sem Value} (hs : ∀ w v w', s.run P w = .ok v w' → (execOp ρ o).run P w = .ok (.value v) w') (h : runS P q sh s w K) : Gd P q o ρ w K := by
  cases q
  · obtain ⟨w', h⟩ := h
    obtain ⟨v, hr, hk⟩ := exSh_out _ _ h
    show Good P o ρ w K
    unfold Good; rw [hs w v w' hr]; exact ⟨_, hk⟩
  · exact h.elim
  · exact h.elim
  · obtain ⟨v, hr, hk⟩ := exSh_out _ _ h
    exact ⟨v, _, hk, fun w2 hS => hs w2 v w2 (hr w2 hS)⟩

theorem gd_of_next {sh : Sh} {str : Bool} {s : Sem Value} (hs : ∀ w v w', s.run P w = .ok v w' → (execOp ρ o).run P w = .ok (.value v) w') (h : wNext P q str sh s w K) : Gd P q o ρ w K := by
  cases q
  · rcases h with ⟨w', hr, hk⟩ | h
    · show Good P o ρ w K
      unfold Good; rw [hs w _ w' hr]; exact ⟨_, hk⟩
    · show Good P o ρ w K
      cases str with
      | true =>
        obtain ⟨w', p, r, hr, hk⟩ := h
        unfold Good; rw [hs w _ w' hr]; exact ⟨_, hk⟩
      | false =>
        obtain ⟨w', k, v, hr, hk⟩ := h
        unfold Good; rw [hs w _ w' hr]; exact ⟨_, hk⟩
  all_goals exact h.elim
theorem gd_of_entry {s : Sem Value} (hs : ∀ w v w', s.run P w = .ok v w' → (execOp ρ o).run P w = .ok (.value v) w') (h : wEntry P q s w K) : Gd P q o ρ w K := by
  cases q
  · obtain ⟨w', k, v, hr, hk⟩ := h
    show Good P o ρ w K
    unfold Good; rw [hs w _ w' hr]; exact ⟨_, hk⟩
  all_goals exact h.elim
theorem run_isAgg (h : one P t = true) : (isAgg t).run P w = Result.ok false w := by
  unfold one at h
  cases hu : P.underlying t with
  | none => simp [hu] at h
  | some d => cases d <;> first | (simp [hu] at h; done) | simp [isAgg, run_underlying hu]
theorem run_sizeOne (h : size1 P t = true) : (Go.sizeOf t).run P w = Result.ok 1 w := by
  unfold size1 at h
  cases hu : P.info? t with
  | none => simp [hu] at h
  | some d =>
    have : d.size = 1 := by rw [hu] at h; exact Nat.eq_of_beq_eq_true h
    simp [Go.sizeOf, typeInfo, hu, this]
theorem gd_heap {v : Value} {b : Bool} (hq : ∀ S, q ≠ .held S) (hk : K v b w) (h : ∀ w2, w2.heap = w.heap → (execOp ρ o).run P w2 = .ok (.value v) w2) : Gd P q o ρ w K := by
  cases q
  · show Good P o ρ w K
    unfold Good; rw [h w rfl]; exact ⟨b, hk⟩
  · exact .inl ⟨v, b, hk, h⟩
  · exact ⟨v, b, hk, h⟩
  · exact absurd rfl (hq _)
theorem good_load {x : Operand} (ho : o.op = .load t x) (h : wLoad P ty q t (ρ x) w K) : Gd P q o ρ w K := by
  unfold wLoad at h
  split at h
  · rename_i a hx
    split at h
    · rename_i h1
      split at h
      · split at h
        · obtain ⟨x, hc, hk⟩ := h
          refine ⟨_, _, hk, fun w2 hw2 => ?_⟩
          have hc2 := hc w2 hw2
          simp [execOp, ho, hx, Instr.loadAt, Instr.sureAddr, loadVar, run_isAgg h1, hc2]
        · rename_i hq
          obtain ⟨x, hc, hk⟩ := h
          refine gd_heap (fun S => hq S) hk fun w2 hw2 => ?_
          have hc2 : w2.cell? a = some (Leaf.mk _ x) := by rw [← hc]; unfold World.cell?; rw [hw2]
          simp [execOp, ho, hx, Instr.loadAt, Instr.sureAddr, loadVar, run_isAgg h1, hc2]
      · exact h.elim
    · cases q
      · obtain ⟨v, hr, hk⟩ := exSh_out _ _ h
        show Good P o ρ w K
        have hrun : (execOp ρ o).run P w = .ok (.value v) w := by simp [execOp, ho, hx, Instr.loadAt, Instr.sureAddr, hr]
        unfold Good; rw [hrun]; exact ⟨_, hk⟩
      · exact h.elim
      · exact h.elim
      · obtain ⟨v, hr, hk⟩ := exSh_out _ _ h
        refine ⟨v, _, hk, fun w2 hS => ?_⟩
        have hr2 := hr w2 hS
        simp [execOp, ho, hx, Instr.loadAt, Instr.sureAddr, hr2]
  · exact h.elim
theorem good_store {x v : Operand} (ho : o.op = .store t x v) (h : wStore P q t (ρ x) (ρ v) w K) : Gd P q o ρ w K := by
  unfold wStore at h
  cases q
  case quiet => exact h.elim
  case still => exact h.elim
  case held => exact h.elim
  simp only at h
  split at h
  · rename_i a hx
    split at h
    · rename_i h1
      have key : ∀ u : Value, ρ v = u → (∀ c, u ≠ .agg c) → (∀ c, u ≠ .tuple c) → (Wr w a ∧ ∀ w2, w2 = w.setCell a u → K undef false w2) → Gd P .full o ρ w K := by
        intro u hu n1 n2 ⟨⟨⟨old, hc⟩, hf⟩, hk⟩
        refine good_of_skip (w' := w.setCell a u) ?_ (hk _ rfl)
        have hcells : u.cells = #[u] := by cases u <;> first | rfl | exact absurd rfl (n1 _)
        have hst : (store a u).run P w = .ok () (w.setCell a u) := by
          cases u <;> first | exact absurd rfl (n1 _) | exact absurd rfl (n2 _) | (rw [run_store _ _ _ _ _ rfl]; simp [hc, hf])
        simp [execOp, ho, hx, hu, Instr.storeAt, Instr.sureAddr, storeVar, run_sizeOne h1, hcells, storeCells, Addr.add, hst]
      revert h
      generalize hv : ρ v = u
      intro h
      cases u <;> first | exact h.elim | exact key _ hv (fun _ => by simp) (fun _ => by simp) h
    · obtain ⟨w', hr, hk⟩ := h
      refine good_of_skip ?_ hk
      simp [execOp, ho, hx, Instr.storeAt, Instr.sureAddr, hr]
  · exact h.elim
theorem good_nil {x : Operand} {f : Bool} (ho : o.op = .nilCheck x) (h : wNil (ρ x) f w K) : Gd P q o ρ w K := by
  unfold wNil at h
  split at h
  · split at h
    · rename_i a hx
      refine gd_mk h fun w2 => ?_
      simp [execOp, ho, hx]
    · exact h.elim
  · split at h
    · rename_i p hx
      obtain ⟨a, rfl, hk⟩ := h
      refine gd_mk hk fun w2 => ?_
      simp [execOp, ho, hx]
    · exact h.elim
theorem run_under {d : TypeDesc} (h : P.underlying t = some d) : (underlying t).run P w = Result.ok d w := by
  exact run_underlying h w
theorem run_size {i : TypeInfo} (h : P.info? t = some i) : (Go.sizeOf t).run P w = Result.ok i.size w := by
  simp [Go.sizeOf, typeInfo, h]
theorem good_index {x i : Operand} (ho : o.op = .index t x i) (h : wIndex P ty q o ρ t (ρ x) (ρ i) w K) : Gd P q o ρ w K := by
  unfold wIndex at h
  split at h
  · rename_i hu
    split at h
    · rename_i s k n hx hi
      obtain ⟨⟨h0, h1⟩, hk⟩ := h
      refine gd_mk hk fun w2 => ?_
      have hlt : n.toNat < s.size := by omega
      have hb : s[n.toNat]? = some s[n.toNat] := getElem?_pos s n.toNat hlt
      have hb2 : byteAt s n = (s[n.toNat].toNat : Int) := by
        unfold byteAt
        have : s.data.toList[n.toNat]? = some s[n.toNat] := by
          rw [List.getElem?_eq_getElem (by simpa using hlt)]; rfl
        rw [this]; rfl
      rw [hb2]
      simp [execOp, ho, hx, hi, Instr.index, asIntOf, run_under hu, h0, hb]
    · exact h.elim
  · exact gd_of_runS (fun w v w' hr => by simp [execOp, ho, hr]) h
theorem good_indexAddr {x i : Operand} (ho : o.op = .indexAddr t x i) (h : wIndexAddr P t (ρ x) (ρ i) w K) : Gd P q o ρ w K := by
  unfold wIndexAddr at h
  split at h
  · rename_i e hu
    split at h
    · rename_i b len cap k n hx hi
      obtain ⟨⟨h0, h1⟩, a, rfl, hk⟩ := h
      split at hk
      · rename_i ti hti
        refine gd_mk hk fun w2 => ?_
        simp [execOp, ho, hx, hi, Instr.indexAt, asIntOf, run_under hu, h0, h1, run_size hti]
      · exact hk.elim
    · exact h.elim
  · rename_i n e hu
    split at h
    · rename_i a k m hx hi
      obtain ⟨⟨h0, h1⟩, hk⟩ := h
      split at hk
      · rename_i ti hti
        refine gd_mk hk fun w2 => ?_
        simp [execOp, ho, hx, hi, Instr.indexAt, asIntOf, run_under hu, h0, h1, run_size hti, Instr.sureAddr]
      · exact hk.elim
    · exact h.elim
  · exact h.elim

theorem good_slice {x : Operand} {lo hi mx : Option Operand} (ho : o.op = .slice t x lo hi mx) (h : wSlice P t (ρ x) (lo.map ρ) (hi.map ρ) (mx.map ρ) w K) : Gd P q o ρ w K := by
  unfold wSlice at h
  cases mx with
  | some m => simp at h
  | none =>
  simp only [Option.map_none] at h
  split at h
  · rename_i hu
    split at h
    · rename_i s hx
      cases lo with
      | none =>
        cases hi with
        | none =>
          refine gd_mk h fun w2 => ?_
          simp [execOp, ho, hx, Instr.sliceAt, Instr.slice, Instr.sliceBounds, run_under hu]
        | some b =>
          simp only [Option.map_none, Option.map_some] at h
          generalize hb : ρ b = v at h
          cases v <;> first | exact h.elim | skip
          obtain ⟨⟨h0, h1⟩, hk⟩ := h
          refine gd_mk hk fun w2 => ?_
          simp [execOp, ho, hx, Instr.sliceAt, Instr.slice, Instr.sliceBounds, Instr.sliceBound, asIntOf, run_under hu, hb, h0, h1]
      | some a =>
        cases hi with
        | none =>
          simp only [Option.map_none, Option.map_some] at h
          generalize ha : ρ a = v at h
          cases v <;> first | exact h.elim | skip
          obtain ⟨⟨h0, h1⟩, hk⟩ := h
          refine gd_mk hk fun w2 => ?_
          simp [execOp, ho, hx, Instr.sliceAt, Instr.slice, Instr.sliceBounds, Instr.sliceBound, asIntOf, run_under hu, ha, h0, h1]
        | some b =>
          simp only [Option.map_some] at h
          generalize ha : ρ a = v at h
          generalize hb : ρ b = u at h
          cases v <;> first | exact h.elim | skip
          cases u <;> first | exact h.elim | skip
          rename_i k1 l k2 r
          obtain ⟨⟨h0, h1, h2⟩, hk⟩ := h
          have h3 : 0 ≤ r := by omega
          have h4 : l ≤ ((r.toNat : Nat) : Int) := by omega
          have h5 : ¬ max r 0 < l := by omega
          refine gd_mk hk fun w2 => ?_
          simp [execOp, ho, hx, Instr.sliceAt, Instr.slice, Instr.sliceBounds, Instr.sliceBound, asIntOf, run_under hu, ha, hb, h0, h2, h3, h5]
    · exact h.elim
  · rename_i e hu
    split at h
    · rename_i a len cap ti hx hti
      cases lo with
      | none =>
        cases hi with
        | none =>
          refine gd_mk h fun w2 => ?_
          simp [execOp, ho, hx, Instr.sliceAt, Instr.slice, Instr.sliceBounds, run_under hu, run_size hti, subA]
        | some b =>
          simp only [Option.map_none, Option.map_some] at h
          generalize hb : ρ b = v at h
          cases v <;> first | exact h.elim | skip
          obtain ⟨⟨h0, h1⟩, hk⟩ := h
          refine gd_mk hk fun w2 => ?_
          simp [execOp, ho, hx, Instr.sliceAt, Instr.slice, Instr.sliceBounds, Instr.sliceBound, asIntOf, run_under hu, run_size hti, subA, hb, h0, h1]
      | some a0 =>
        cases hi with
        | none =>
          simp only [Option.map_none, Option.map_some] at h
          generalize ha : ρ a0 = v at h
          cases v <;> first | exact h.elim | skip
          obtain ⟨⟨h0, h1⟩, hk⟩ := h
          refine gd_mk hk fun w2 => ?_
          simp [execOp, ho, hx, Instr.sliceAt, Instr.slice, Instr.sliceBounds, Instr.sliceBound, asIntOf, run_under hu, run_size hti, subA, ha, h0, h1]
        | some b =>
          simp only [Option.map_some] at h
          generalize ha : ρ a0 = v at h
          generalize hb : ρ b = u at h
          cases v <;> first | exact h.elim | skip
          cases u <;> first | exact h.elim | skip
          rename_i k1 l k2 r
          obtain ⟨⟨h0, h1, h2⟩, hk⟩ := h
          have h3 : 0 ≤ r := by omega
          have h4 : l ≤ ((r.toNat : Nat) : Int) := by omega
          have h5 : ¬ max r 0 < l := by omega
          refine gd_mk hk fun w2 => ?_
          simp [execOp, ho, hx, Instr.sliceAt, Instr.slice, Instr.sliceBounds, Instr.sliceBound, asIntOf, run_under hu, run_size hti, subA, ha, hb, h0, h2, h3, h5]
    · exact h.elim
  · rename_i n e hu
    split at h
    · rename_i a ti hx hti
      cases lo with
      | none =>
        cases hi with
        | none =>
          refine gd_mk h fun w2 => ?_
          simp [execOp, ho, hx, Instr.sliceAt, Instr.sureAddr, Instr.sliceBounds, run_under hu, run_size hti, subA]
          try (split <;> rfl)
        | some b =>
          simp only [Option.map_none, Option.map_some] at h
          generalize hb : ρ b = v at h
          cases v <;> first | exact h.elim | skip
          obtain ⟨⟨h0, h1⟩, hk⟩ := h
          refine gd_mk hk fun w2 => ?_
          simp [execOp, ho, hx, Instr.sliceAt, Instr.sureAddr, Instr.sliceBounds, Instr.sliceBound, asIntOf, run_under hu, run_size hti, subA, hb, h0, h1]
          try (split <;> rfl)
      | some a0 =>
        cases hi with
        | none =>
          simp only [Option.map_none, Option.map_some] at h
          generalize ha : ρ a0 = v at h
          cases v <;> first | exact h.elim | skip
          obtain ⟨⟨h0, h1⟩, hk⟩ := h
          refine gd_mk hk fun w2 => ?_
          simp [execOp, ho, hx, Instr.sliceAt, Instr.sureAddr, Instr.sliceBounds, Instr.sliceBound, asIntOf, run_under hu, run_size hti, subA, ha, h0, h1]
          try (split <;> rfl)
        | some b =>
          simp only [Option.map_some] at h
          generalize ha : ρ a0 = v at h
          generalize hb : ρ b = u at h
          cases v <;> first | exact h.elim | skip
          cases u <;> first | exact h.elim | skip
          rename_i k1 l k2 r
          obtain ⟨⟨h0, h1, h2⟩, hk⟩ := h
          have h3 : 0 ≤ r := by omega
          have h4 : l ≤ ((r.toNat : Nat) : Int) := by omega
          have h5 : ¬ max r 0 < l := by omega
          refine gd_mk hk fun w2 => ?_
          simp [execOp, ho, hx, Instr.sliceAt, Instr.sureAddr, Instr.sliceBounds, Instr.sliceBound, asIntOf, run_under hu, run_size hti, subA, ha, hb, h0, h2, h3]
          rw [if_pos (by omega)]; congr 3; split <;> rfl
    · exact h.elim
  · exact h.elim
theorem hnp (hρ : ∀ v, ρ (.const v) = v) (y : Operand) (h : isNilP y = true) : ρ y = .pointer none := by
  unfold isNilP at h; split at h
  · exact hρ _
  · cases h
theorem hns (hρ : ∀ v, ρ (.const v) = v) (y : Operand) (h : isNilS y = true) : ρ y = .slice none 0 0 := by
  unfold isNilS at h; split at h
  · exact hρ _
  · cases h
theorem run_eqIn_slice (d : Nat) (t e : TypeId) (a : Option Addr) (l c : Nat) (h : P.underlying t = some (.slice e)) : (Op.equalIn (d + 1) t (.slice a l c) (.slice none 0 0)).run P w = Result.ok a.isNone w := by
  cases a <;> simp [Op.equalIn, run_underlying h]
theorem run_eq_slice (t e : TypeId) (a : Option Addr) (l c : Nat) (h : P.underlying t = some (.slice e)) : (Op.equal t (.slice a l c) (.slice none 0 0)).run P w = Result.ok a.isNone w := run_eqIn_slice 9999 t e a l c h
theorem eqGuard_ptr (op : BinOp) (x y : Operand) (p : Option Addr) (v : Value) : eqGuard op t x y (.pointer p) v = pure () := by cases op <;> rfl
theorem eqGuard_sl (op : BinOp) (x y : Operand) (p : Option Addr) (n m : Nat) (v : Value) : eqGuard op t x y (.slice p n m) v = pure () := by cases op <;> rfl
theorem leafEq_run {d : Nat} {t : TypeId} {v u : Value} {b : Bool} (ht : leafT (P.underlying t) v = true) (h : leafEq v u = some b) (w : World) : (Op.equalIn (d + 1) t v u).run P w = .ok b w := by
  cases v <;> cases u <;> simp only [leafEq, reduceCtorEq] at h
  · rename_i x y
    cases hu : P.underlying t with
    | none => rw [hu] at ht; simp [leafT] at ht
    | some T =>
      rw [hu] at ht
      cases T <;> simp [leafT] at ht
      cases h
      exact run_equalIn_bool' w d t x y hu
  · rename_i k x k' y
    cases hs : sameK k k' <;> simp only [hs, reduceCtorEq, Option.some.injEq] at h
    have := sameK_spec hs; subst this
    cases hu : P.underlying t with
    | none => rw [hu] at ht; simp [leafT] at ht
    | some T =>
      rw [hu] at ht
      cases T <;> simp [leafT] at ht
      subst h
      exact run_equalIn_int w d t _ _ x y hu
  · rename_i x y
    cases hu : P.underlying t with
    | none => rw [hu] at ht; simp [leafT] at ht
    | some T =>
      rw [hu] at ht
      cases T <;> simp [leafT] at ht
      cases h
      exact run_equalIn_string w d t x y hu
theorem leafT_agg {t : TypeId} {v : Value} (ht : leafT (P.underlying t) v = true) (w : World) : (isAgg t).run P w = .ok false w := by
  cases hu : P.underlying t with
  | none => rw [hu] at ht; simp [leafT] at ht
  | some T =>
    rw [hu] at ht
    cases T <;> simp [leafT] at ht <;> simp [isAgg, run_underlying hu]
theorem run_part {t : TypeId} {cs : Array Value} {i : Nat} {v : Value} (h : cs[i]? = some v) (ht : (isAgg t).run P w = .ok false w) : (part t cs i).run P w = .ok v w := by
  simp [part, ht, h]
theorem run_fields {d : Nat} {xs ys : Array Value} (w : World) : ∀ (fs : List Field) (i : Nat) (vs us : List Value) (b : Bool), xs.toList.drop i = vs → ys.toList.drop i = us → fieldsOK P i fs vs = true → allEq vs us = some b →
    (Op.eqFields (d + 1) xs ys fs).run P w = .ok b w
  | [], i, [], [], b, _, _, _, h => by simp only [allEq, Option.some.injEq] at h; subst h; rfl
  | [], i, [], u :: us, b, _, _, _, h => by simp [allEq] at h
  | [], i, v :: vs, us, b, _, _, hf, _ => by simp [fieldsOK] at hf
  | f :: fs, i, [], us, b, _, _, hf, _ => by simp [fieldsOK] at hf
  | f :: fs, i, v :: vs, [], b, _, _, _, h => by cases vs <;> simp [allEq] at h
  | f :: fs, i, v :: vs, u :: us, b, hv, hu, hf, h => by
    simp only [fieldsOK] at hf
    cases h1 : (f.name != "_") <;> simp only [h1, reduceCtorEq] at hf
    cases h2 : Nat.beq f.offset i <;> simp only [h2, reduceCtorEq] at hf
    cases h3 : leafT (P.underlying f.type) v <;> simp only [h3, reduceCtorEq] at hf
    have h2 := Nat.eq_of_beq_eq_true h2
    have gx : xs[f.offset]? = some v := by
      rw [h2]
      have := congrArg (·[0]?) hv
      simpa using this
    have gy : ys[f.offset]? = some u := by
      rw [h2]
      have := congrArg (·[0]?) hu
      simpa using this
    have hname : f.name ≠ "_" := by simpa using h1
    have key : ∀ a b', leafEq v u = some a → (∀ w, (Op.eqFields (d + 1) xs ys fs).run P w = .ok b' w) → (Op.eqFields (d + 1) xs ys (f :: fs)).run P w = .ok (a && b') w := by
      intro a b' ha hr
      simp only [Op.eqFields, if_pos hname, Sem.run_bind, run_part gx (leafT_agg h3 w), Result.andThen_ok, run_part (t := f.type) gy (leafT_agg h3 w), leafEq_run (d := d) h3 ha w]
      cases a
      · simp
      · simp [hr]
    have hdx : xs.toList.drop (i + 1) = vs := by rw [← List.tail_drop, hv]; rfl
    have hdy : ys.toList.drop (i + 1) = us := by rw [← List.tail_drop, hu]; rfl
    cases vs with
    | nil =>
      cases us with
      | nil =>
        simp only [allEq] at h
        have := key b true h fun w => run_fields w fs (i + 1) [] [] true hdx hdy hf rfl
        simpa using this
      | cons _ _ => 
        simp only [allEq] at h
        cases hl : leafEq v u <;> simp [hl] at h
    | cons v2 vs =>
      cases us with
      | nil =>
        simp only [allEq] at h
        cases hl : leafEq v u <;> simp only [hl, reduceCtorEq] at h
      | cons u2 us =>
        simp only [allEq] at h
        cases hl : leafEq v u <;> simp only [hl, reduceCtorEq] at h
        cases ha : allEq (v2 :: vs) (u2 :: us) <;> simp only [ha, reduceCtorEq, Option.some.injEq] at h
        rename_i a b'
        subst h
        exact key a b' hl fun w => run_fields w fs (i + 1) _ _ b' hdx hdy hf ha
theorem run_flat {t : TypeId} {xs ys : Array Value} {b : Bool} (h : flatB P t xs.toList = true) (ha : allEq xs.toList ys.toList = some b) (w : World) :
    (Op.equalIn 10000 t (.agg xs) (.agg ys)).run P w = .ok b w ∧ P.eqGuardType P.depth t = false := by
  unfold flatB at h
  split at h
  · rename_i fs hu
    cases h1 : P.stoodInHeld t <;> simp only [h1, reduceCtorEq] at h
    cases h2 : P.eqGuardType P.depth t <;> simp only [h2, reduceCtorEq] at h
    have hf : P.fieldsOf t = fs := by simp [Program.fieldsOf, hu]
    refine ⟨?_, rfl⟩
    rw [show (10000 : Nat) = 9999 + 1 from rfl, run_equalIn_agg w 9999 t xs ys (by rw [hf]; exact hu) h1, hf]
    exact run_fields (d := 9998) w _ 0 _ _ b rfl rfl h ha
  · cases h
theorem eqGuard_agg (w : World) {op : BinOp} {x y : Operand} {xs ys : Array Value} (h : P.eqGuardType P.depth t = false) : (eqGuard op t x y (.agg xs) (.agg ys)).run P w = .ok () w := run_eqGuard_agg w op t x y xs ys h
theorem good_agg {neg : Bool} {op : BinOp} {x y : Operand} {yt : TypeId} {xs : Array Value} (ho : o.op = .binOp op t x y yt) (hop : op = if neg then .neq else .eql) (hx : ρ x = .agg xs) (h : wAggEq P neg t xs (ρ y) w K) : Gd P q o ρ w K := by
  unfold wAggEq at h
  split at h
  · rename_i ys hy
    cases h1 : flatB P t xs.toList <;> simp only [h1] at h
    cases h2 : allEq xs.toList ys.toList <;> simp only [h2] at h
    rename_i b
    cases neg
    · simp only [Bool.false_eq_true, if_false] at hop
      subst hop
      refine gd_mk h fun w2 => ?_
      obtain ⟨h3, h4⟩ := run_flat h1 h2 w2
      simp [execOp, ho, hx, hy, eqGuard_agg w2 h4, run_eql_struct, h3, Result.andThen]
    · simp only [if_true] at hop
      subst hop
      refine gd_mk h fun w2 => ?_
      obtain ⟨h3, h4⟩ := run_flat h1 h2 w2
      simp [execOp, ho, hx, hy, eqGuard_agg w2 h4, run_neq_struct, h3, Result.andThen]
  · exact h.elim
theorem good_bin {op : BinOp} {x y : Operand} {yt : TypeId} (hρ : ∀ v, ρ (.const v) = v) (ho : o.op = .binOp op t x y yt) (h : wBin P ty q o ρ op t y (ρ x) (ρ y) w K) : Gd P q o ρ w K := by
  unfold wBin at h
  cases op <;> simp only at h <;> first | exact gd_of_run1 h | skip
  all_goals (revert h; generalize hx : ρ x = u; generalize hy : ρ y = v; intro h)
  case add =>
    cases u <;> first | exact gd_of_run1 h | skip
    cases v <;> first | exact h.elim | skip
    rename_i s r
    obtain ⟨h1, hk⟩ := h
    refine gd_mk hk fun w2 => ?_
    have h2 : ¬ ((s.size + r.size : Nat) : Int) > IntKind.i64.max := by rw [IntKind.max_i64]; omega
    simp only [execOp, ho, hx, hy, binOp, Op.stringOp, if_neg h2]
    simp [eqGuard]
  case quo =>
    cases u <;> first | exact h.elim | skip
    cases v <;> first | exact h.elim | skip
    rename_i k a k' b
    cases hs : sameK k k' <;> simp only [hs] at h
    have := sameK_spec hs; subst this
    obtain ⟨h1, hk⟩ := h
    refine gd_mk hk fun w2 => ?_
    simp [execOp, ho, hx, hy, binOp, Op.intDiv, h1, eqGuard]
  case rem =>
    cases u <;> first | exact h.elim | skip
    cases v <;> first | exact h.elim | skip
    rename_i k a k' b
    cases hs : sameK k k' <;> simp only [hs] at h
    have := sameK_spec hs; subst this
    obtain ⟨h1, hk⟩ := h
    refine gd_mk hk fun w2 => ?_
    simp [execOp, ho, hx, hy, binOp, Op.intDiv, h1, eqGuard]
  case shl =>
    cases u <;> first | exact h.elim | skip
    cases v <;> first | exact h.elim | skip
    obtain ⟨h1, hk⟩ := h
    have h2 := Int.not_lt.2 h1
    refine gd_mk hk fun w2 => ?_
    simp [execOp, ho, hx, hy, binOp, Op.shift, h2, eqGuard]
  case shr =>
    cases u <;> first | exact h.elim | skip
    cases v <;> first | exact h.elim | skip
    obtain ⟨h1, hk⟩ := h
    have h2 := Int.not_lt.2 h1
    refine gd_mk hk fun w2 => ?_
    simp [execOp, ho, hx, hy, binOp, Op.shift, h2, eqGuard]
  case eql =>
    cases u <;> simp only at h <;> first | exact gd_of_run1 h | skip
    rotate_left 2
    · exact good_agg ho rfl hx (hy ▸ h)
    · rename_i p
      cases hn : isNilP y <;> simp only [hn] at h
      · exact gd_of_runS (fun w v' w' hr => by simp [execOp, ho, hx, hy, eqGuard_ptr, hr]) h
      · split at h
        · rename_i e hu
          have hv : v = .pointer none := by
            rw [← hy]; exact hnp hρ _ hn
          subst hv
          refine gd_mk h fun w2 => ?_
          simp [execOp, ho, hx, hy, eqGuard_ptr, run_eql_pointer_nil (P := P) w2 t p (by rw [hu]; simp [Program.pointee, hu])]
        · exact h.elim
    · rename_i a n c
      cases hn : isNilS y <;> simp only [hn] at h
      split at h
      · rename_i e hu
        have hv : v = .slice none 0 0 := by
          rw [← hy]; exact hns hρ _ hn
        subst hv
        refine gd_mk h fun w2 => ?_
        simp [execOp, ho, hx, hy, eqGuard_sl, binOp, run_eq_slice t e a n c hu]
      · exact h.elim
  case neq =>
    cases u <;> simp only at h <;> first | exact gd_of_run1 h | skip
    rotate_left 2
    · exact good_agg ho rfl hx (hy ▸ h)
    · rename_i p
      cases hn : isNilP y <;> simp only [hn] at h
      · exact gd_of_runS (fun w v' w' hr => by simp [execOp, ho, hx, hy, eqGuard_ptr, hr]) h
      · split at h
        · rename_i e hu
          have hv : v = .pointer none := by
            rw [← hy]; exact hnp hρ _ hn
          subst hv
          refine gd_mk h fun w2 => ?_
          simp [execOp, ho, hx, hy, eqGuard_ptr, run_neq_pointer_nil (P := P) w2 t p (by rw [hu]; simp [Program.pointee, hu])]
        · exact h.elim
    · rename_i a n c
      cases hn : isNilS y <;> simp only [hn] at h
      split at h
      · rename_i e hu
        have hv : v = .slice none 0 0 := by
          rw [← hy]; exact hns hρ _ hn
        subst hv
        refine gd_mk h fun w2 => ?_
        simp [execOp, ho, hx, hy, eqGuard_sl, binOp, run_eq_slice t e a n c hu]
      · exact h.elim
theorem good_b {c : Call} {b : Builtin} (ho : o.op = .call c) (hb : c.callee = .builtin b) (h : wB P ty q o ρ b c w K) : Gd P q o ρ w K := by
  unfold wB at h
  split at h
  · rename_i s hs
    refine gd_of_runS (fun w v w' hr => ?_) h
    simp only [execOp, ho, resolve, hb, Sem.run_bind, Sem.run_pure, Result.andThen_ok, invoke]
    cases b <;> simp only [bSem, Option.some.injEq, reduceCtorEq] at hs <;> subst hs <;> simp [builtin, hr]
  · exact h.elim
theorem good_conv {s d : TypeId} {x : Operand} (ho : o.op = .convert s d x) (hs : (P.underlying s).isSome = true) (h : wConv P ty q o s d (ρ x) w K) : Gd P q o ρ w K := by
  unfold wConv at h
  split at h
  · rename_i k n hx
    split at h
    · rename_i kd hd
      obtain ⟨ds, hs'⟩ := Option.isSome_iff_exists.1 hs
      refine gd_mk h fun w2 => ?_
      simp [execOp, ho, hx, convert, run_under hs', run_under hd, Conv.intToInt]
    · exact gd_of_runS (fun w v w' hr => by simp [execOp, ho, hr]) h
  · exact gd_of_runS (fun w v w' hr => by simp [execOp, ho, hr]) h
theorem good_call {c : Call} (ho : o.op = .call c) (h : wCall P ty q o ρ c w K) : Gd P q o ρ w K := by
  unfold wCall at h
  split at h
  · rename_i b hb
    have len1 : ∀ x t, c.args.toList = [x] → c.argTypes.toList = [t] → c.args = #[x] ∧ c.argTypes = #[t] := by
      intro x t h1 h2
      exact ⟨by rw [← Array.toArray_toList (xs := c.args), h1], by rw [← Array.toArray_toList (xs := c.argTypes), h2]⟩
    have lenS : ∀ (x : Operand) (s : ByteArray), c.args.toList = [x] → ρ x = .string s → (match c.argTypes.toList with
          | [t] => match P.underlying t with
            | some .string => K (.int .i64 s.size) false w
            | _ => False
          | _ => False) → b = .len → Gd P q o ρ w K := by
      intro x s hx hs g hl
      split at g
      · rename_i t ht
        split at g
        · rename_i hu
          obtain ⟨e1, e2⟩ := len1 x t hx ht
          obtain ⟨callee, args, argTypes⟩ := c
          simp only at hb e1 e2
          subst hb e1 e2 hl
          refine gd_mk g fun w2 => ?_
          simp [execOp, ho, resolve, invoke, builtin, Builtin.len_, hs, run_under hu, goInt]
        · exact g.elim
      · exact g.elim
    have lenL : ∀ (x : Operand) (p : Option Addr) (n m : Nat), c.args.toList = [x] → ρ x = .slice p n m → (match c.argTypes.toList with
          | [t] => match P.underlying t with
            | some (.slice _) => K (.int .i64 n) false w
            | _ => False
          | _ => False) → b = .len → Gd P q o ρ w K := by
      intro x p n m hx hs g hl
      split at g
      · rename_i t ht
        split at g
        · rename_i e hu
          obtain ⟨e1, e2⟩ := len1 x t hx ht
          obtain ⟨callee, args, argTypes⟩ := c
          simp only at hb e1 e2
          subst hb e1 e2 hl
          refine gd_mk g fun w2 => ?_
          simp [execOp, ho, resolve, invoke, builtin, Builtin.len_, hs, run_under hu, goInt]
        · exact g.elim
      · exact g.elim
    split at h
    · split at h
      · rename_i x hx
        split at h
        · rename_i s hs; exact lenS x s hx hs h rfl
        · rename_i p n m hs; exact lenL x p n m hx hs h rfl
        · exact good_b ho hb h
      · exact h.elim
    · exact gd_of_run1 h
    · exact gd_of_run1 h
    · exact good_b ho hb h
  · exact gd_of_run1 h
theorem good_map {m k v : Operand} {t : TypeId} (ho : o.op = .mapUpdate t m k v ∨ o.op = .insert t m k v) (h : ∃ w', (Instr.mapUpdate t (ρ m) (ρ k) (ρ v)).run P w = .ok () w' ∧ K undef false w') : Gd P .full o ρ w K := by
  obtain ⟨w', hr, hk⟩ := h
  refine good_of_skip (w' := w') ?_ hk
  rcases ho with ho | ho <;> simp [execOp, ho, hr]
/-- EVERY OPERATION THAT IS SERVED. -/
theorem good_op1 {φ : Operand → Bool} (hρ : ∀ v, ρ (.const v) = v) (h : wOp1 P ty q o ρ φ w K) : Gd P q o ρ w K := by
  unfold wOp1 at h
  split at h
  case h_1 => rename_i x ho; exact gd_mk h fun w2 => by simp [execOp, ho]
  case h_2 => rename_i x ho; exact gd_mk h fun w2 => by simp [execOp, ho]
  case h_3 => rename_i ho; exact good_load ho h
  case h_4 => rename_i ho; exact good_store ho h
  case h_5 => rename_i ho; exact good_nil ho h
  case h_6 => rename_i ho; exact good_index ho h
  case h_7 => rename_i ho; exact good_indexAddr ho h
  case h_8 => rename_i ho; exact good_slice ho h
  case h_9 => rename_i ho; exact good_bin hρ ho h
  case h_10 =>
    rename_i ho
    split at h
    · rename_i hs; exact good_conv ho (by rw [hs]; rfl) h
    · exact h.elim
  case h_11 => rename_i ho; exact good_call ho h
  all_goals first | exact gd_of_run1 h | exact gd_of_runA h | exact h.elim | skip
  all_goals first | (rename_i ho; exact gd_of_runS (fun w v w' hr => by simp [execOp, ho, hr]) h) | (rename_i ho; exact gd_of_next (fun w v w' hr => by simp [execOp, ho, hr]) h) | (rename_i ho; exact gd_of_entry (fun w v w' hr => by simp [execOp, ho, hr]) h) | skip
  all_goals (rename_i ho; cases q <;> first | exact good_map (.inl ho) h | exact good_map (.inr ho) h | exact h.elim)
end
end Vc
