/- The reference's lengths of fixed codes, and its tables of lengths and distances. No condition. -/
import Derived.Test.YtofejgaanpaieaaInfR3
set_option linter.unusedVariables false
namespace Go.Proofs.Ytofejgaanpaieaa
open Go Vc BitsM HuffM Go.Proofs

theorem iv_nv (f : Nat → Nat) (n : Nat) : iv ((List.range n).map fun k => ((f k : Nat) : Int)) = nv ((List.range n).map f) := by
  rw [← iv_ofNat, List.map_map]; rfl
/-- 'Fixed'. -/
theorem rfixed_spec (w : World) : Calls Try.prog F_cartularyref05_Fixed #[] w fun e w' =>
    ∃ l d : Sl, e = .returned (.tuple #[slv l, slv d]) ∧ Reads w' l.a (nv InfM.fixedLit) ∧ l.len = 288 ∧ Reads w' d.a (nv InfM.fixedDist) ∧ d.len = 32 ∧ Fr (fun _ => False) w w' := by
  refine vc_cartularyref05_Fixed_ok (R := fun v w' => ∃ l d : Sl, v = .tuple #[slv l, slv d] ∧ Reads w' l.a (nv InfM.fixedLit) ∧ l.len = 288 ∧ Reads w' d.a (nv InfM.fixedDist) ∧ d.len = 32 ∧ Fr (fun _ => False) w w') ?_ (fun v w' ⟨l, d, h⟩ => ⟨l, d, by rw [h.1], h.2⟩)
  intro w1 hw1 w2 hw2
  have hf1 : Fr (fun _ => False) w w1 := hw1 ▸ Fr.alloc _ _ _
  have hf2 : Fr (fun _ => False) w1 w2 := hw2 ▸ Fr.alloc _ _ _
  have hs1 : w1.heap.size = w.heap.size + 1 := by rw [hw1]; exact Array.size_push ..
  have hs2 : w2.heap.size = w1.heap.size + 1 := by rw [hw2]; exact Array.size_push ..
  have hol : Own w2 w.heap.size T_int ⟨some ⟨w.heap.size, 0, none⟩, 0, 0⟩ [] := (hw1 ▸ own_empty w T_int : Own w1 _ _ _ _).keep hf2 (by simp)
  have hod : Own w2 w1.heap.size T_int ⟨some ⟨w1.heap.size, 0, none⟩, 0, 0⟩ [] := hw2 ▸ own_empty w1 T_int
  refine ⟨fun l i w' => ∃ n : Nat, i = (n : Int) ∧ n ≤ 288 ∧ Own w' w.heap.size T_int l (iv ((List.range n).map fun k => (fixN k : Int))) ∧ Fr (fun k => k = w.heap.size) w2 w' ∧ Since w2 ⟨some ⟨w.heap.size, 0, none⟩, 0, 0⟩ l,
    fun l i w' => 288 - i.toNat, ⟨0, rfl, by omega, hol, .refl _ _, .refl _ _⟩, ?_⟩
  rintro l5 i w7 ⟨n, rfl, hn, ho, hf, hsn⟩
  have e3 : IntKind.i64.wrap ((n : Int) + 1) = ((n + 1 : Nat) : Int) := by rw [wrap_i64 (by omega) (by omega)]; omega
  rw [e3]
  refine ⟨fun hlt => ?_, fun hge => ?_⟩
  · have hlt := of_decide_eq_true hlt
    have key : ∀ z : Int, (fixN n : Int) = z → ∀ w9, w9 = w7.alloc (.cells #[.int .i64 z] T_int) →
        ∃ w10 l11, (Builtin.append_ #[T_S_int, T_S_int] T_S_int #[.slice l5.a l5.len l5.cap, .slice (some ⟨w7.heap.size, 0, none⟩) 1 1]).run Try.prog w9 = .ok (.slice l11.a l11.len l11.cap) w10 ∧
          ((∃ m : Nat, ((n + 1 : Nat) : Int) = (m : Int) ∧ m ≤ 288 ∧ Own w10 w.heap.size T_int l11 (iv ((List.range m).map fun k => (fixN k : Int))) ∧ Fr (fun k => k = w.heap.size) w2 w10 ∧ Since w2 ⟨some ⟨w.heap.size, 0, none⟩, 0, 0⟩ l11) ∧ 288 - (((n + 1 : Nat) : Int)).toNat < 288 - ((n : Int)).toNat) := fun z hz w9 h9 => by
      obtain ⟨w10, l11, hr, ho2, hf2, hsn2⟩ := append_one' elInt ho (v := .int .i64 z) rfl (by simp [maxLen]; omega) (by simp; omega) (by have := hf.size; omega) h9
      rw [← hz, range_snoc (fun k => (fixN k : Int))] at ho2
      exact ⟨w10, l11, hr, ⟨n + 1, rfl, by omega, ho2, hf.trans hf2 (fun k hk ⟨y, hy, e⟩ => by
        rcases hsn y hy with ⟨x, hx, hb⟩ | hnew
        · cases hx; simp only at hb; omega
        · omega), hsn.trans hsn2 hf.size⟩, by omega⟩
    refine ⟨fun h1 => ⟨fun h2 => ⟨fun h3 => ⟨fun h4 => ?_, fun h4 => ?_⟩, fun h3 => ?_⟩, fun h2 => ⟨fun h3 => ⟨fun h4 => ?_, fun h4 => ?_⟩, fun h3 => ?_⟩⟩, fun h1 => ⟨fun h3 => ⟨fun h4 => ?_, fun h4 => ?_⟩, fun h3 => ?_⟩⟩
    all_goals simp only [decide_eq_true_eq, decide_eq_false_iff_not] at *
    all_goals exact key _ (by unfold fixN; (repeat' split) <;> omega)
  have hge := of_decide_eq_false hge
  have hn8 : n = 288 := by omega
  subst hn8
  rw [iv_nv, ← fixedLit_eq] at ho
  have hod7 : Own w7 w1.heap.size T_int ⟨some ⟨w1.heap.size, 0, none⟩, 0, 0⟩ [] := hod.keep hf (fun y hy => by cases hy; simp only; omega)
  refine ⟨fun l i w' => ∃ n : Nat, i = (n : Int) ∧ n ≤ 32 ∧ Own w' w1.heap.size T_int l (iv ((List.range n).map fun _ => ((5 : Nat) : Int))) ∧ Fr (fun k => k = w1.heap.size) w7 w' ∧ Since w7 ⟨some ⟨w1.heap.size, 0, none⟩, 0, 0⟩ l,
    fun l i w' => 32 - i.toNat, ⟨0, rfl, by omega, hod7, .refl _ _, .refl _ _⟩, ?_⟩
  rintro l37 i w39 ⟨n, rfl, hn, ho9, hf9, hsn9⟩
  have e4 : IntKind.i64.wrap ((n : Int) + 1) = ((n + 1 : Nat) : Int) := by rw [wrap_i64 (by omega) (by omega)]; omega
  rw [e4]
  have z7 := hf.size
  have z9 := hf9.size
  refine ⟨fun hlt w40 h40 => ?_, fun hge => ?_⟩
  · have hlt := of_decide_eq_true hlt
    obtain ⟨w10, l11, hr, ho2, hf2, hsn2⟩ := append_one' elInt ho9 (v := .int .i64 5) rfl (by simp [maxLen]; omega) (by simp; omega) (by omega) h40
    have hk := range_snoc (fun _ => ((5 : Nat) : Int)) n
    rw [show (((5 : Nat) : Int)) = 5 from rfl] at hk
    rw [show (((5 : Nat) : Int)) = 5 from rfl, hk] at ho2
    exact ⟨w10, l11, hr, ⟨n + 1, rfl, by omega, ho2, hf9.trans hf2 (fun k hk ⟨y, hy, e⟩ => by
        rcases hsn9 y hy with ⟨x, hx, hb⟩ | hnew
        · cases hx; simp only at hb; omega
        · omega), hsn9.trans hsn2 hf9.size⟩, by dsimp only; omega⟩
  · have hge := of_decide_eq_false hge
    have hn8 : n = 32 := by omega
    subst hn8
    rw [iv_nv (fun _ => 5), ← fixedDist_eq] at ho9
    have hlb : ∀ x, l5.a = some x → x.block ≠ w1.heap.size := fun x hx => by
      rcases hsn x hx with ⟨y, hy, hb⟩ | hnew
      · cases hy; simp only at hb; omega
      · omega
    refine ⟨_, _, rfl, (ho.keep hf9 hlb).reads, by rw [ho.len, List.length_map, fixedLit_eq, List.length_map, List.length_range], ho9.reads, by rw [ho9.len, List.length_map, fixedDist_eq, List.length_map, List.length_range], ?_⟩
    exact ((hf1.trans' hf2).trans hf (fun k hk h => by omega)).trans hf9 (fun k hk h => by omega)
/-- An entry more for each of two lists. -/
theorem app2 {w : World} {base : Nat} {l m : Sl} {xs ys : List Value} (hl : Own w base T_int l xs) (hm : Own w base T_int m ys) (hne : ∀ x y, l.a = some x → m.a = some y → x.block ≠ y.block) (hbase : base ≤ w.heap.size) (u v : Int) (hx : xs.length < 400) (hy : ys.length < 400) :
    ∀ w13, w13 = w.alloc (.cells #[.int .i64 u] T_int) → ∃ w14 l15, (Builtin.append_ #[T_S_int, T_S_int] T_S_int #[.slice l.a l.len l.cap, .slice (some ⟨w.heap.size, 0, none⟩) 1 1]).run Try.prog w13 = .ok (.slice l15.a l15.len l15.cap) w14 ∧
      ∀ w16, w16 = w14.alloc (.cells #[.int .i64 v] T_int) → ∃ w17 l18, (Builtin.append_ #[T_S_int, T_S_int] T_S_int #[.slice m.a m.len m.cap, .slice (some ⟨w14.heap.size, 0, none⟩) 1 1]).run Try.prog w16 = .ok (.slice l18.a l18.len l18.cap) w17 ∧
        Own w17 base T_int l15 (xs ++ [.int .i64 u]) ∧ Own w17 base T_int l18 (ys ++ [.int .i64 v]) ∧ (∀ x y, l15.a = some x → l18.a = some y → x.block ≠ y.block) ∧ Fr (fun k => base ≤ k) w w17 := by
  intro w13 h13
  obtain ⟨w14, l15, hr, ho, hf, hs⟩ := append_one' elInt hl (v := .int .i64 u) rfl (by unfold maxLen; omega) (by omega) hbase h13
  refine ⟨w14, l15, hr, fun w16 h16 => ?_⟩
  have hm' := hm.keep hf fun y hy ⟨x, hx, e⟩ => hne x y hx hy e.symm
  obtain ⟨w17, l18, hr', ho', hf', hs'⟩ := append_one' elInt hm' (v := .int .i64 v) rfl (by unfold maxLen; omega) (by omega) (Nat.le_trans hbase hf.size) h16
  have hd : ∀ x y, l15.a = some x → m.a = some y → x.block ≠ y.block := fun x y hx hy => by
    rcases hs x hx with ⟨z, hz, hb⟩ | hn
    · rw [← hb]; exact hne z y hz hy
    · have := (hm.blk hy).2; omega
  refine ⟨w17, l18, hr', ho.keep hf' fun x hx ⟨y, hy, e⟩ => hd x y hx hy e, ho', fun x y hx hy => ?_, (hf.mono fun k _ ⟨y, hy, e⟩ => by have := (hl.blk hy).1; omega).trans' (hf'.mono fun k _ ⟨y, hy, e⟩ => by have := (hm.blk hy).1; omega)⟩
  rcases hs' y hy with ⟨z, hz, hb⟩ | hn
  · rw [← hb]; exact hd x z hx hz
  · have := (ho.blk hx).2; omega
def lbV (n : Nat) : Nat := if n < 8 then 3 + n else 3 + (4 + n % 4) * 2 ^ (n / 4 - 1)
def lbK (n : Nat) : Nat := if n < 8 then 0 else n / 4 - 1
def dbV (n : Nat) : Nat := if n < 4 then 1 + n else 1 + (2 + n % 2) * 2 ^ (n / 2 - 1)
def dbK (n : Nat) : Nat := if n < 4 then 0 else n / 2 - 1
theorem lb_step : ∀ n : Nat, n < 28 → IntKind.i64.wrap ((lbV n : Int) + IntKind.i64.wrap (1 * 2 ^ min (((lbK n : Nat) : Int).toNat) 64)) = (lbV (n + 1) : Int) := by decide +kernel
theorem db_step : ∀ n : Nat, n < 30 → IntKind.i64.wrap ((dbV n : Int) + IntKind.i64.wrap (1 * 2 ^ min (((dbK n : Nat) : Int).toNat) 64)) = (dbV (n + 1) : Int) := by decide +kernel
theorem lb_k : ∀ n : Nat, n < 28 → 8 ≤ n → IntKind.i64.wrap (IntKind.i64.wrap (Int.tdiv (n : Int) 4) - 1) = (lbK n : Int) := by decide +kernel
theorem db_k : ∀ n : Nat, n < 30 → 4 ≤ n → IntKind.i64.wrap (IntKind.i64.wrap (Int.tdiv (n : Int) 2) - 1) = (dbK n : Int) := by decide +kernel
theorem lb_all : (List.range 28).map lbV ++ [258] = (List.range 29).map fun i => (InfM.lenBase i).1 := by decide +kernel
theorem lk_all : (List.range 28).map lbK ++ [0] = (List.range 29).map fun i => (InfM.lenBase i).2 := by decide +kernel
theorem db_all : (List.range 30).map dbV = (List.range 30).map fun i => (InfM.distBase i).1 := by decide +kernel
theorem dk_all : (List.range 30).map dbK = (List.range 30).map fun i => (InfM.distBase i).2 := by decide +kernel
theorem nv_range (f : Nat → Nat) (n : Nat) : nv ((List.range n).map f) ++ [.int .i64 (f n : Int)] = nv ((List.range (n + 1)).map f) := by
  rw [nv_snoc, List.range_succ, List.map_append]; rfl
/-- A table of numbers, in a block from lo up to hi. -/
def TabN (w : World) (lo hi : Nat) (l : Sl) (xs : List Nat) : Prop := Reads w l.a (nv xs) ∧ l.len = xs.length ∧ ∀ x, l.a = some x → lo ≤ x.block ∧ x.block < hi
theorem TabN.keep {w w2 : World} {lo hi : Nat} {l : Sl} {xs : List Nat} (h : TabN w lo hi l xs) {X : Nat → Prop} (hf : Fr X w w2) (hx : ∀ k, lo ≤ k → k < hi → ¬ X k) : TabN w2 lo hi l xs :=
  ⟨h.1.keep hf fun x hxx => hx _ (h.2.2 x hxx).1 (h.2.2 x hxx).2, h.2⟩
theorem TabN.get {w : World} {lo hi : Nat} {l : Sl} {xs : List Nat} (h : TabN w lo hi l xs) {k x : Nat} (hk : xs[k]? = some x) : ∃ y, l.a = some y ∧ w.cell? (y.add k) = some (.int .i64 (x : Int)) :=
  h.1 k _ (nv_get hk)
theorem Own.tabN {w : World} {base : Nat} {l : Sl} {xs : List Nat} (h : Own w base T_int l (nv xs)) {hi : Nat} (hh : w.heap.size ≤ hi) : TabN w base hi l xs :=
  ⟨h.reads, by rw [h.len]; simp [nv], fun x hx => ⟨(h.blk hx).1, Nat.lt_of_lt_of_le (h.blk hx).2 hh⟩⟩
/-- 'Lengths'. -/
theorem rlengths_spec (w : World) : Calls Try.prog F_cartularyref05_Lengths #[] w fun e w' =>
    ∃ l9 l10 l11 l12 : Sl, e = .returned (.tuple #[slv l9, slv l10, slv l11, slv l12]) ∧ TabN w' w.heap.size w'.heap.size l9 ((List.range 29).map fun i => (InfM.lenBase i).1) ∧ TabN w' w.heap.size w'.heap.size l10 ((List.range 29).map fun i => (InfM.lenBase i).2) ∧
      TabN w' w.heap.size w'.heap.size l11 ((List.range 30).map fun i => (InfM.distBase i).1) ∧ TabN w' w.heap.size w'.heap.size l12 ((List.range 30).map fun i => (InfM.distBase i).2) ∧ Fr (fun _ => False) w w' := by
  refine vc_cartularyref05_Lengths_ok (R := fun v w' => ∃ l9 l10 l11 l12 : Sl, v = .tuple #[slv l9, slv l10, slv l11, slv l12] ∧ TabN w' w.heap.size w'.heap.size l9 ((List.range 29).map fun i => (InfM.lenBase i).1) ∧ TabN w' w.heap.size w'.heap.size l10 ((List.range 29).map fun i => (InfM.lenBase i).2) ∧
      TabN w' w.heap.size w'.heap.size l11 ((List.range 30).map fun i => (InfM.distBase i).1) ∧ TabN w' w.heap.size w'.heap.size l12 ((List.range 30).map fun i => (InfM.distBase i).2) ∧ Fr (fun _ => False) w w') ?_ (fun v w' ⟨l9, l10, l11, l12, h⟩ => ⟨l9, l10, l11, l12, by rw [h.1], h.2⟩)
  have start : ∀ {w w1 w2 : World}, w1 = w.alloc (.cells #[] T_int) → w2 = w1.alloc (.cells #[] T_int) → Own w2 w.heap.size T_int ⟨some ⟨w.heap.size, 0, none⟩, 0, 0⟩ [] ∧ Own w2 w.heap.size T_int ⟨some ⟨w1.heap.size, 0, none⟩, 0, 0⟩ [] ∧ Fr (fun _ => False) w w2 ∧ w1.heap.size = w.heap.size + 1 := by
    intro w w1 w2 hw1 hw2
    have hf1 : Fr (fun _ => False) w w1 := hw1 ▸ Fr.alloc _ _ _
    have hf2 : Fr (fun _ => False) w1 w2 := hw2 ▸ Fr.alloc _ _ _
    have hs1 : w1.heap.size = w.heap.size + 1 := by rw [hw1]; exact Array.size_push ..
    have ho2 : Own w2 w1.heap.size T_int ⟨some ⟨w1.heap.size, 0, none⟩, 0, 0⟩ [] := hw2 ▸ own_empty w1 T_int
    exact ⟨(hw1 ▸ own_empty w T_int : Own w1 _ _ _ _).keep hf2 (by simp), ho2.mono (by omega), hf1.trans' hf2, hs1⟩
  have up : ∀ {w wa wb : World}, Fr (fun _ => False) w wa → Fr (fun k => w.heap.size ≤ k) wa wb → Fr (fun _ => False) w wb := fun h h' => h.trans h' fun k hk hY => by omega
  intro w1 hw1 w2 hw2
  obtain ⟨ha, hb, hf, hs1⟩ := start hw1 hw2
  refine ⟨fun l m x i w' => ∃ n : Nat, i = (n : Int) ∧ n ≤ 28 ∧ x = (lbV n : Int) ∧ Own w' w.heap.size T_int l (nv ((List.range n).map lbV)) ∧ Own w' w.heap.size T_int m (nv ((List.range n).map lbK)) ∧ (∀ x y, l.a = some x → m.a = some y → x.block ≠ y.block) ∧ Fr (fun _ => False) w w',
    fun _ _ _ i _ => 28 - i.toNat, ⟨0, rfl, by omega, rfl, ha, hb, fun x y hx hy => by cases hx; cases hy; simp only; omega, hf⟩, ?_⟩
  rintro l5 l6 x i w9 ⟨n, rfl, hn, rfl, ho, hm, hd, hf9⟩
  have e1 : IntKind.i64.wrap ((n : Int) + 1) = ((n + 1 : Nat) : Int) := by rw [wrap_i64 (by omega) (by omega)]; omega
  refine ⟨fun hlt => ?_, fun hge => ?_⟩
  · have hlt := of_decide_eq_true hlt
    refine ⟨fun k w' => w' = w9 ∧ k = (lbK n : Int), ⟨fun h8 => ⟨by decide, rfl, lb_k n (by omega) (by have := of_decide_eq_true h8; omega)⟩, fun h8 => ⟨rfl, ?_⟩⟩, ?_⟩
    · have := of_decide_eq_false h8
      unfold lbK; rw [if_pos (by omega)]; rfl
    rintro k w12 ⟨hw, rfl⟩ w13 h13
    subst hw
    obtain ⟨w14, l15, hr, h⟩ := app2 ho hm hd hf9.size (lbV n : Int) (lbK n : Int) (by simp [nv]; omega) (by simp [nv]; omega) w13 h13
    refine ⟨w14, l15, hr, fun w16 h16 => ?_⟩
    obtain ⟨w17, l18, hr', ho', hm', hd', hf'⟩ := h w16 h16
    rw [nv_range] at ho' hm'
    rw [lb_step n (by omega), e1]
    exact ⟨w17, l18, hr', by omega, ⟨n + 1, rfl, by omega, rfl, ho', hm', hd', up hf9 hf'⟩, by dsimp only; omega⟩
  have hge := of_decide_eq_false hge
  have hn8 : n = 28 := by omega
  subst hn8
  intro w19 h19
  obtain ⟨w20, l21, hr, h⟩ := app2 ho hm hd hf9.size 258 0 (by simp [nv]) (by simp [nv]) w19 h19
  refine ⟨w20, l21, hr, fun w22 h22 => ?_⟩
  obtain ⟨w23, l24, hr', ho', hm', hd', hf'⟩ := h w22 h22
  have hL : TabN w23 w.heap.size w23.heap.size l21 ((List.range 29).map fun i => (InfM.lenBase i).1) := by
    rw [← lb_all]; refine Own.tabN ?_ (Nat.le_refl _); rw [← nv_snoc]; exact ho'
  have hK : TabN w23 w.heap.size w23.heap.size l24 ((List.range 29).map fun i => (InfM.lenBase i).2) := by
    rw [← lk_all]; refine Own.tabN ?_ (Nat.le_refl _); rw [← nv_snoc]; exact hm'
  have hf23 := up hf9 hf'
  refine ⟨w23, l24, hr', fun w25 h25 w26 h26 => ?_⟩
  obtain ⟨ga, gb, gf, gs1⟩ := start h25 h26
  refine ⟨fun x l m i w' => ∃ n : Nat, i = (n : Int) ∧ n ≤ 30 ∧ x = (dbV n : Int) ∧ Own w' w23.heap.size T_int l (nv ((List.range n).map dbV)) ∧ Own w' w23.heap.size T_int m (nv ((List.range n).map dbK)) ∧ (∀ x y, l.a = some x → m.a = some y → x.block ≠ y.block) ∧ Fr (fun _ => False) w23 w',
    fun _ _ _ i _ => 30 - i.toNat, ⟨0, rfl, by omega, rfl, ga, gb, fun x y hx hy => by cases hx; cases hy; simp only; omega, gf⟩, ?_⟩
  rintro x l30 l31 i w33 ⟨n, rfl, hn, rfl, go, gm, gd, gf33⟩
  have e1 : IntKind.i64.wrap ((n : Int) + 1) = ((n + 1 : Nat) : Int) := by rw [wrap_i64 (by omega) (by omega)]; omega
  refine ⟨fun hlt => ?_, fun hge => ?_⟩
  · have hlt := of_decide_eq_true hlt
    refine ⟨fun k w' => w' = w33 ∧ k = (dbK n : Int), ⟨fun h8 => ⟨by decide, rfl, db_k n (by omega) (by have := of_decide_eq_true h8; omega)⟩, fun h8 => ⟨rfl, ?_⟩⟩, ?_⟩
    · have := of_decide_eq_false h8
      unfold dbK; rw [if_pos (by omega)]; rfl
    rintro k w36 ⟨hw, rfl⟩ w37 h37
    subst hw
    obtain ⟨w38, l39, hr, h⟩ := app2 go gm gd gf33.size (dbV n : Int) (dbK n : Int) (by simp [nv]; omega) (by simp [nv]; omega) w37 h37
    refine ⟨w38, l39, hr, fun w40 h40 => ?_⟩
    obtain ⟨w41, l42, hr', go', gm', gd', gf'⟩ := h w40 h40
    rw [nv_range] at go' gm'
    rw [db_step n (by omega), e1]
    exact ⟨w41, l42, hr', by omega, ⟨n + 1, rfl, by omega, rfl, go', gm', gd', up gf33 gf'⟩, by dsimp only; omega⟩
  have hge := of_decide_eq_false hge
  have hn8 : n = 30 := by omega
  subst hn8
  rw [db_all] at go
  rw [dk_all] at gm
  have z1 := hf23.size
  have z2 := gf33.size
  have wide : ∀ {w' : World} {lo hi lo' hi' : Nat} {l : Sl} {xs : List Nat}, TabN w' lo hi l xs → lo' ≤ lo → hi ≤ hi' → TabN w' lo' hi' l xs := fun h h1 h2 => ⟨h.1, h.2.1, fun x hx => ⟨Nat.le_trans h1 (h.2.2 x hx).1, Nat.lt_of_lt_of_le (h.2.2 x hx).2 h2⟩⟩
  exact ⟨_, _, _, _, rfl, wide (hL.keep gf33 (by simp)) (Nat.le_refl _) z2, wide (hK.keep gf33 (by simp)) (Nat.le_refl _) z2, wide (Own.tabN go (Nat.le_refl _)) z1 (Nat.le_refl _), wide (Own.tabN gm (Nat.le_refl _)) z1 (Nat.le_refl _), hf23.trans' gf33⟩
end Go.Proofs.Ytofejgaanpaieaa
