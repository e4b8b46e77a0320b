/- SHA-1 and SHA-256 on lists. -/
set_option linter.unusedVariables false
namespace ShaM
abbrev W := BitVec 32
def rotl (x : W) (n : Nat) : W := (x <<< n) ||| (x >>> (32 - n))
/-- Four bytes from number i on as a word, the highest first. -/
def be (p : List UInt8) (i : Nat) : W := BitVec.ofNat 32 ((p.getD i 0).toNat * 16777216 + (p.getD (i + 1) 0).toNat * 65536 + (p.getD (i + 2) 0).toNat * 256 + (p.getD (i + 3) 0).toNat)
def words (p : List UInt8) : List W := (List.range 16).map fun i => be p (4 * i)
def ext1 : Nat → List W → List W
  | 0, w => w
  | n + 1, w => ext1 n (w ++ [rotl (w.getD (w.length - 3) 0 ^^^ w.getD (w.length - 8) 0 ^^^ w.getD (w.length - 14) 0 ^^^ w.getD (w.length - 16) 0) 1])
def f1 (i : Nat) (b c d : W) : W := if i < 20 then (b &&& c) ||| (~~~b &&& d) else if i < 40 then b ^^^ c ^^^ d else if i < 60 then (b &&& c) ||| (b &&& d) ||| (c &&& d) else b ^^^ c ^^^ d
def k1 (i : Nat) : W := if i < 20 then 0x5a827999#32 else if i < 40 then 0x6ed9eba1#32 else if i < 60 then 0x8f1bbcdc#32 else 0xca62c1d6#32
/-- One round. -/
def rd1 (i : Nat) (x : W) : List W → List W
  | [a, b, c, d, e] => [rotl a 5 + f1 i b c d + e + k1 i + x, a, rotl b 30, c, d]
  | v => v
def rds1 : Nat → List W → List W → List W
  | _, [], v => v
  | i, x :: r, v => rds1 (i + 1) r (rd1 i x v)
def adds : List W → List W → List W
  | a :: h, b :: v => (a + b) :: adds h v
  | _, _ => []
def block1 (h : List W) (p : List UInt8) : List W := adds h (rds1 0 (ext1 64 (words p)) h)
def blocks (f : List W → List UInt8 → List W) : Nat → List W → List UInt8 → List W
  | 0, h, _ => h
  | n + 1, h, t => blocks f n (f h (t.take 64)) (t.drop 64)
def pad (t : List UInt8) : List UInt8 := t ++ 0x80 :: List.replicate ((119 - t.length % 64) % 64) 0 ++ (List.range 8).map fun i => UInt8.ofNat (t.length * 8 / 2 ^ (56 - 8 * i))
def outw (x : W) : List UInt8 := [UInt8.ofNat (x.toNat / 16777216), UInt8.ofNat (x.toNat / 65536), UInt8.ofNat (x.toNat / 256), UInt8.ofNat x.toNat]
def out (h : List W) : List UInt8 := h.flatMap outw
def start1 : List W := [0x67452301#32, 0xefcdab89#32, 0x98badcfe#32, 0x10325476#32, 0xc3d2e1f0#32]
def sha1 (t : List UInt8) : List UInt8 := out (blocks block1 ((pad t).length / 64) start1 (pad t))

def ext2 : Nat → List W → List W
  | 0, w => w
  | n + 1, w =>
    let x := w.getD (w.length - 15) 0
    let y := w.getD (w.length - 2) 0
    ext2 n (w ++ [w.getD (w.length - 16) 0 + (rotl x 25 ^^^ rotl x 14 ^^^ x >>> 3) + w.getD (w.length - 7) 0 + (rotl y 15 ^^^ rotl y 13 ^^^ y >>> 10)])
def rd2 (k w : W) : List W → List W
  | [a, b, c, d, e, f, g, h] =>
    let x := h + (rotl e 26 ^^^ rotl e 21 ^^^ rotl e 7) + ((e &&& f) ^^^ (~~~e &&& g)) + k + w
    let y := (rotl a 30 ^^^ rotl a 19 ^^^ rotl a 10) + ((a &&& b) ^^^ (a &&& c) ^^^ (b &&& c))
    [x + y, a, b, c, d + x, e, f, g]
  | v => v
def rds2 : List W → List W → List W → List W
  | k :: ks, x :: xs, v => rds2 ks xs (rd2 k x v)
  | _, _, v => v
def block2 (K : List W) (h : List W) (p : List UInt8) : List W := adds h (rds2 K (ext2 48 (words p)) h)
def start2 : List W := [0x6a09e667#32, 0xbb67ae85#32, 0x3c6ef372#32, 0xa54ff53a#32, 0x510e527f#32, 0x9b05688c#32, 0x1f83d9ab#32, 0x5be0cd19#32]
end ShaM
namespace ShaM
def nxt1 (w : List W) : W := rotl (w.getD (w.length - 3) 0 ^^^ w.getD (w.length - 8) 0 ^^^ w.getD (w.length - 14) 0 ^^^ w.getD (w.length - 16) 0) 1
theorem ext1_snoc : ∀ (n : Nat) (w : List W), ext1 (n + 1) w = ext1 n w ++ [nxt1 (ext1 n w)]
  | 0, w => rfl
  | n + 1, w => by
    show ext1 (n + 1) (w ++ [nxt1 w]) = _
    rw [ext1_snoc n]
    rfl
theorem ext1_length : ∀ (n : Nat) (w : List W), (ext1 n w).length = w.length + n
  | 0, w => rfl
  | n + 1, w => by
    show (ext1 n (w ++ [nxt1 w])).length = _
    rw [ext1_length n, List.length_append, List.length_singleton]; omega
def nxt2 (w : List W) : W :=
  let x := w.getD (w.length - 15) 0
  let y := w.getD (w.length - 2) 0
  w.getD (w.length - 16) 0 + (rotl x 25 ^^^ rotl x 14 ^^^ x >>> 3) + w.getD (w.length - 7) 0 + (rotl y 15 ^^^ rotl y 13 ^^^ y >>> 10)
theorem ext2_snoc : ∀ (n : Nat) (w : List W), ext2 (n + 1) w = ext2 n w ++ [nxt2 (ext2 n w)]
  | 0, w => rfl
  | n + 1, w => by
    show ext2 (n + 1) (w ++ [nxt2 w]) = _
    rw [ext2_snoc n]
    rfl
theorem ext2_length : ∀ (n : Nat) (w : List W), (ext2 n w).length = w.length + n
  | 0, w => rfl
  | n + 1, w => by
    show (ext2 n (w ++ [nxt2 w])).length = _
    rw [ext2_length n, List.length_append, List.length_singleton]; omega
theorem words_length (p : List UInt8) : (words p).length = 16 := by simp [words]
theorem words_take (p : List UInt8) {k : Nat} (h : k < 16) : (words p).take (k + 1) = (words p).take k ++ [be p (4 * k)] := by
  have hl : k < (words p).length := by rw [words_length]; exact h
  rw [List.take_succ_eq_append_getElem hl]
  simp [words]
/-- The first k words of a schedule. -/
def E1 (p : List UInt8) (k : Nat) : List W := if k ≤ 16 then (words p).take k else ext1 (k - 16) (words p)
def E2 (p : List UInt8) (k : Nat) : List W := if k ≤ 16 then (words p).take k else ext2 (k - 16) (words p)
theorem E1_length (p : List UInt8) (k : Nat) : (E1 p k).length = k := by
  unfold E1
  split
  · rw [List.length_take, words_length]; omega
  · rw [ext1_length, words_length]; omega
theorem E2_length (p : List UInt8) (k : Nat) : (E2 p k).length = k := by
  unfold E2
  split
  · rw [List.length_take, words_length]; omega
  · rw [ext2_length, words_length]; omega
theorem E1_low (p : List UInt8) {k : Nat} (h : k < 16) : E1 p (k + 1) = E1 p k ++ [be p (4 * k)] := by
  unfold E1; rw [if_pos (by omega), if_pos (by omega), words_take p h]
theorem E2_low (p : List UInt8) {k : Nat} (h : k < 16) : E2 p (k + 1) = E2 p k ++ [be p (4 * k)] := by
  unfold E2; rw [if_pos (by omega), if_pos (by omega), words_take p h]
theorem E1_ext (p : List UInt8) {k : Nat} (h : 16 ≤ k) : E1 p k = ext1 (k - 16) (words p) := by
  unfold E1
  split
  · have : k = 16 := by omega
    subst this
    rw [List.take_of_length_le (by rw [words_length]; omega)]; rfl
  · rfl
theorem E2_ext (p : List UInt8) {k : Nat} (h : 16 ≤ k) : E2 p k = ext2 (k - 16) (words p) := by
  unfold E2
  split
  · have : k = 16 := by omega
    subst this
    rw [List.take_of_length_le (by rw [words_length]; omega)]; rfl
  · rfl
theorem E1_high (p : List UInt8) {k : Nat} (h : 16 ≤ k) : E1 p (k + 1) = E1 p k ++ [nxt1 (E1 p k)] := by
  rw [E1_ext p h, E1_ext p (by omega), show k + 1 - 16 = (k - 16) + 1 by omega, ext1_snoc]
theorem E2_high (p : List UInt8) {k : Nat} (h : 16 ≤ k) : E2 p (k + 1) = E2 p k ++ [nxt2 (E2 p k)] := by
  rw [E2_ext p h, E2_ext p (by omega), show k + 1 - 16 = (k - 16) + 1 by omega, ext2_snoc]
theorem nxt1_at {w : List W} {k : Nat} (h : w.length = k) : nxt1 w = rotl (w.getD (k - 3) 0 ^^^ w.getD (k - 8) 0 ^^^ w.getD (k - 14) 0 ^^^ w.getD (k - 16) 0) 1 := by unfold nxt1; rw [h]
theorem nxt2_at {w : List W} {k : Nat} (h : w.length = k) : nxt2 w = w.getD (k - 16) 0 + (rotl (w.getD (k - 15) 0) 25 ^^^ rotl (w.getD (k - 15) 0) 14 ^^^ w.getD (k - 15) 0 >>> 3) + w.getD (k - 7) 0 + (rotl (w.getD (k - 2) 0) 15 ^^^ rotl (w.getD (k - 2) 0) 13 ^^^ w.getD (k - 2) 0 >>> 10) := by
  unfold nxt2; rw [h]
theorem rds1_step {i : Nat} {l v : List W} (h : i < l.length) : rds1 i (l.drop i) v = rds1 (i + 1) (l.drop (i + 1)) (rd1 i (l.getD i 0) v) := by
  rw [List.drop_eq_getElem_cons h]
  simp [rds1, h]
end ShaM
