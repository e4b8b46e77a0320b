/- 'Module'. Conditions: as named. -/
import Derived.Test.YtmhlmdnhpfhoeaaDoorModF
import Derived.Test.YtmhlmdnhpfhoeaaDoorModG
import Derived.Test.YtmhlmdnhpfhoeaaDoorLaw22
set_option linter.unusedVariables false
namespace Go.Proofs.YtmhlmdnhpfhoeaaDoor
open Go Vc Go.Proofs

def wModule : ByteArray := ⟨#[109, 111, 100, 117, 108, 101]⟩
def modL : List LineE → ByteArray → Bool → ByteArray × Int × Int
  | [], path, found => if found = true then (path, 0, 0) else (⟨#[]⟩, 0, 7)
  | e :: r, path, found => if e.verb ≠ wModule then modL r path found else if found = true then (⟨#[]⟩, e.at_, 8)
    else if e.words.length ≠ 1 ∨ pathB (e.words.headD ⟨#[]⟩) = false then (⟨#[]⟩, e.at_, 4) else modL r (e.words.headD ⟨#[]⟩) true
def modE : PRes → ByteArray × Int × Int
  | .bad n => (⟨#[]⟩, n, 3)
  | .good es => modL es ⟨#[]⟩ false
theorem ln_at {w : World} {base m : Nat} {sl : Sl} {es : List LineE} (h : LnsAt w base m sl es) {i : Nat} {e : LineE} (hi : es[i]? = some e) :
    ∃ ad, ∃ ws : Sl, sl.a = some ad ∧ (loadVar T_modfile_Line (ad.add (i * 3))).run Tryd.prog w = .ok (.agg #[.string e.verb, .slice ws.a ws.len ws.cap, .int .i64 (e.at_ : Int)]) w ∧ ws.len = e.words.length ∧ Reads w ws.a (strV e.words) ∧
      w.cell? (ad.add (i * 3)) = some (.string e.verb) ∧ w.cell? ((ad.add (i * 3)).add 2) = some (.int .i64 (e.at_ : Int)) := by
  obtain ⟨ps, h1, h2, h3, h4⟩ := h
  rw [← h2, List.getElem?_map] at hi
  obtain ⟨p, hp, rfl⟩ := Option.map_eq_some_iff.1 hi
  have hx : (ps.map (·.1))[i]? = some p.1 := by rw [List.getElem?_map, hp]; rfl
  have hr := h1.reads (fun _ => rfl)
  obtain ⟨ad, ha, hl⟩ := hr.load elLn hx
  obtain ⟨ad2, ha2, hc⟩ := hr i p.1 hx
  rw [ha] at ha2
  cases ha2
  obtain ⟨a, b, c, d, _⟩ := h4 p (List.mem_of_getElem? hp)
  have c0 := hc 0 _ rfl
  have c2 := hc 2 _ rfl
  refine ⟨ad, p.1.ws, ha, ?_, c, d, ?_, ?_⟩
  · rw [← a, ← b]; exact hl
  · rw [← a]; exact c0
  · rw [← b]; exact c2
theorem module_spec {s : ByteArray} (hs : s.size ≤ 65536) (w : World) : Calls Tryd.prog F_modfile_Module #[.string s] w fun e w' =>
    Fr (fun _ => False) w w' ∧ ∃ res, PR s.data.toList 1 [] ⟨#[]⟩ false [] res ∧ e = .returned (.tuple #[.string (modE res).1, .int .i64 (modE res).2.1, .int .i64 (modE res).2.2]) := by
  refine vc_modfile_Module_ok (R := fun v w' => Fr (fun _ => False) w w' ∧ ∃ res, PR s.data.toList 1 [] ⟨#[]⟩ false [] res ∧ v = .tuple #[.string (modE res).1, .int .i64 (modE res).2.1, .int .i64 (modE res).2.2]) ?_ (fun v w' ⟨h1, res, h2, h3⟩ => ⟨h1, res, h2, by rw [h3]⟩)
  refine (parse_spec hs w).mono ?_
  rintro e w2 ⟨v, rfl, hF2, res, hPR, hv⟩
  cases res with
  | bad n =>
    obtain ⟨rfl, _⟩ := hv
    exact ⟨⟨none, 0, 0⟩, _, _, rfl, fun _ => ⟨hF2, _, hPR, rfl⟩, fun h => by cases h⟩
  | good es =>
    obtain ⟨sl, rfl, hL, hle, _⟩ := hv
    refine ⟨sl, _, _, rfl, fun h => (by cases h), fun _ => ?_⟩
    have hres : ∀ {w' : World} {p : ByteArray} {n m : Int}, Fr (fun _ => False) w w' → modL es ⟨#[]⟩ false = (p, n, m) → Fr (fun _ => False) w w' ∧ ∃ res, PR s.data.toList 1 [] ⟨#[]⟩ false [] res ∧ Value.tuple #[.string p, .int .i64 n, .int .i64 m] = .tuple #[.string (modE res).1, .int .i64 (modE res).2.1, .int .i64 (modE res).2.2] := fun h1 h2 =>
      ⟨h1, _, hPR, by unfold modE; simp only; rw [h2]⟩
    have hlen := hL.len
    refine ⟨fun path found z w' => ∃ k : Nat, z = k ∧ k ≤ es.length ∧ modL es ⟨#[]⟩ false = modL (es.drop k) path found ∧ Fr (fun _ => False) w w' ∧ Fr (fun _ => False) w2 w', fun _ _ z _ => es.length - z.toNat, ⟨0, rfl, Nat.zero_le _, rfl, hF2, .refl _ _⟩, ?_⟩
    rintro path found z w11 ⟨k, rfl, hk, hM, hF11, hf11⟩
    refine ⟨fun hlt => ?_, fun hge => ?_⟩
    rotate_left
    · have hge := of_decide_eq_false hge
      rw [List.drop_eq_nil_of_le (by omega), modL] at hM
      refine ⟨fun hf => hres hF11 ?_, fun hf => hres hF11 ?_⟩
      · rw [hM, if_neg (fun e => by rw [e] at hf; cases hf)]
      · rw [hM, if_pos (by simpa using hf)]
    have hlt := of_decide_eq_true hlt
    have hkl : k < es.length := by omega
    rw [List.drop_eq_getElem_cons hkl, modL] at hM
    have he : es[k]? = some es[k] := List.getElem?_eq_getElem hkl
    generalize es[k] = x at hM he
    obtain ⟨ad, ws, had, hld, hwl, hwr, _, _⟩ := ln_at (hL.keep hf11 (by simp)) he
    refine ⟨⟨by omega, by omega⟩, ad, had, _, ws, _, by rw [Int.toNat_natCast]; exact hld, fun w16 h16 => ?_⟩
    have hf16 : Fr (fun _ => False) w11 w16 := by rw [h16]; exact .alloc _ _ _
    have hl16 : LnAt w16 w11.heap.size ⟨#[]⟩ ⟨none, 0, 0⟩ 0 := by rw [h16]; exact alloc_new _ _
    obtain ⟨w17, k1, k2, k3⟩ := hl16.store x.verb ws x.at_
    have hf17 : Fr (fun _ => False) w11 w17 := hf16.trans k3 fun q hq e => by omega
    have hF17 := hF11.trans' hf17
    have hf17' := hf11.trans' hf17
    have e1 : IntKind.i64.wrap ((k : Int) + 1) = ((k + 1 : Nat) : Int) := by rw [wrap_i64 (by omega) (by omega)]; omega
    rw [e1]
    have c0 : w17.cell? ⟨w11.heap.size, 0, none⟩ = some (.string x.verb) := by rw [cell_blk k2]; rfl
    have c2 : w17.cell? ⟨w11.heap.size, 2, none⟩ = some (.int .i64 (x.at_ : Int)) := by rw [cell_blk k2]; rfl
    refine ⟨w17, k1, _, c0, ?_⟩
    rw [bs_eq]
    refine ⟨fun hv => ⟨⟨k + 1, rfl, hkl, ?_, hF17, hf17'⟩, by dsimp only; omega⟩, fun hv => ⟨fun hf => ⟨_, c2, fun w20 d20 => hres (hF17.trans' (.drew _ d20)) ?_⟩, fun hf => ⟨ws, k2.c1, fun hn => ⟨_, c2, fun w20 d20 => hres (hF17.trans' (.drew _ d20)) ?_⟩, fun hn => ⟨ws, k2.c1, ⟨by decide, ?_⟩, ?_⟩⟩⟩⟩
    · rw [hM, if_pos (by simpa [wModule] using hv)]
    · rw [hM, if_neg (by simpa [wModule] using hv), if_pos hf]
    · have : x.words.length ≠ 1 := fun e => by rw [hwl, e] at hn; simp at hn
      rw [hM, if_neg (by simpa [wModule] using hv), if_neg (by rw [hf]; decide), if_pos (.inl this)]
    · have : x.words.length = 1 := by have := hn; simp at this; omega
      omega
    · have h1 : x.words.length = 1 := by have := hn; simp at this; omega
      obtain ⟨p, hp⟩ := List.length_eq_one_iff.1 h1
      have hp0 : (strV x.words)[0]? = some (.string p) := by rw [hp]; rfl
      have hwr17 := hwr.keep hf17 (by simp)
      obtain ⟨ad2, ha2, hc2⟩ := hwr17 0 _ hp0
      refine ⟨ad2, ha2, p, hc2, (path_spec p w17).mono ?_⟩
      rintro e w28 ⟨rfl, hf28⟩
      have hM' : modL es ⟨#[]⟩ false = if pathB p = false then (⟨#[]⟩, (x.at_ : Int), 4) else modL (es.drop (k + 1)) p true := by
        rw [hM, if_neg (by simpa [wModule] using hv), if_neg (by rw [hf]; decide), hp]
        simp only [List.length_singleton, ne_eq, not_true_eq_false, false_or, List.headD_cons]
      refine ⟨_, rfl, fun hb => ⟨_, hf28.cell c2 (by simp), fun w31 d31 => hres ((hF17.trans' hf28).trans' (.drew _ d31)) ?_⟩, fun hb => ⟨ws, hf28.cell k2.c1 (by simp), ⟨by decide, by omega⟩, ad2, ha2, p, hf28.cell hc2 (by simp), ⟨k + 1, rfl, hkl, ?_, hF17.trans' hf28, hf17'.trans' hf28⟩, by dsimp only; omega⟩⟩
      · rw [hM', if_pos (by simpa using hb)]
      · rw [hM', if_neg (by simpa using hb)]
def awakeA : ByteArray := ⟨#[109, 111, 100, 117, 108, 101, 32, 101, 120, 97, 109, 112, 108, 101, 46, 99, 111, 109, 47, 97, 32, 47, 47, 32, 120, 10]⟩
def awakeP : ByteArray := ⟨#[101, 120, 97, 109, 112, 108, 101, 46, 99, 111, 109, 47, 97]⟩
theorem awake_first : PR awakeA.data.toList 1 [] ⟨#[]⟩ false [] (.good [⟨wModule, [awakeP], 1⟩]) :=
  .tok (t := wModule.data.toList) (r := awakeA.data.toList.drop 6) (k := 0) (by kernel_rfl) (by decide) (by decide)
    (.tok (t := awakeP.data.toList) (r := awakeA.data.toList.drop 20) (k := 0) (by kernel_rfl) (by decide) (by decide)
      (.next (t := []) (r := []) (x := (wModule, [awakeP], ⟨#[]⟩)) (by kernel_rfl) (by kernel_rfl)
        (PR.done (t := []) (r := []) (x := (⟨#[]⟩, [], ⟨#[]⟩)) (by kernel_rfl) (by kernel_rfl) (by kernel_rfl))))
theorem awake_second : PR [10, 34, 120, 10] 1 [] ⟨#[]⟩ false [] (.bad 2) :=
  .next (t := []) (r := [34, 120, 10]) (x := (⟨#[]⟩, [], ⟨#[]⟩)) (by kernel_rfl) (by kernel_rfl) (.none (by kernel_rfl))
theorem awake22_spec (w : World) : Calls Tryd.prog F_cartularylaw22_awake #[] w fun e w' => e = .returned (.bool true) ∧ Fr (fun _ => False) w w' := by
  refine vc_cartularylaw22_awake_ok (R := fun v w' => v = .bool true ∧ Fr (fun _ => False) w w') ?_ (fun v w' h => ⟨by rw [h.1], h.2⟩)
  refine (module_spec (s := awakeA) (by decide) w).mono ?_
  rintro e w2 ⟨hf2, res, hP, rfl⟩
  have := hP.det awake_first
  subst this
  have hm : modE (.good [⟨wModule, [awakeP], 1⟩]) = (awakeP, 0, 0) := by kernel_rfl
  rw [hm]
  refine ⟨_, _, _, rfl, (module_spec (s := ⟨#[10, 34, 120, 10]⟩) (by decide) w2).mono ?_⟩
  rintro e w3 ⟨hf3, res, hP, rfl⟩
  have := hP.det awake_second
  subst this
  exact ⟨_, _, _, rfl, fun _ => ⟨fun _ => ⟨fun _ => ⟨fun _ => ⟨rfl, hf2.trans' hf3⟩, fun h => by cases h⟩, fun h => by rw [bs_eq] at h; exact absurd rfl (of_decide_eq_false h)⟩, fun h => by cases h⟩, fun h => by cases h⟩
end Go.Proofs.YtmhlmdnhpfhoeaaDoor
