/- The hash SHA-256 as a plain function on lists of bytes, in the specification's steps. Plain definitions and theorems; no condition beyond what each states. -/
import Derived.Test.YtdfckeabafbfdaaDoorGen
namespace Go.Proofs.YtdfckeabafbfdaaDoor.Dr

abbrev W32 := BitVec 32
def ror (x : W32) (n : Nat) : W32 := x >>> n ||| x <<< (32 - n)
/-- The state: eight words. -/
structure S8 where
  a : W32
  b : W32
  c : W32
  d : W32
  e : W32
  f : W32
  g : W32
  h : W32
def rot3 (x : W32) (i j k : Nat) : W32 := ror x i ^^^ ror x j ^^^ ror x k
def chM (e f g : W32) : W32 := (e &&& f) ^^^ (~~~e &&& g)
def majM (a b c : W32) : W32 := (a &&& b) ^^^ (a &&& c) ^^^ (b &&& c)
def pM (k w : W32) (s : S8) : W32 := s.h + rot3 s.e 6 11 25 + chM s.e s.f s.g + k + w
def qM (s : S8) : W32 := rot3 s.a 2 13 22 + majM s.a s.b s.c
def roundM (k w : W32) (s : S8) : S8 := ⟨pM k w s + qM s, s.a, s.b, s.c, s.d + pM k w s, s.e, s.f, s.g⟩
theorem ch_eq (e f g : W32) : g ^^^ (e &&& (f ^^^ g)) = chM e f g := by
  unfold chM
  ext i hi
  simp only [BitVec.getElem_xor, BitVec.getElem_and, BitVec.getElem_not]
  cases e[i] <;> cases f[i] <;> cases g[i] <;> rfl
theorem maj_eq (a b c : W32) : (a &&& b) ||| (c &&& (a ||| b)) = majM a b c := by
  unfold majM
  ext i hi
  simp only [BitVec.getElem_xor, BitVec.getElem_and, BitVec.getElem_or]
  cases a[i] <;> cases b[i] <;> cases c[i] <;> rfl

def sig0 (x : W32) : W32 := ror x 7 ^^^ ror x 18 ^^^ (x >>> 3)
def sig1 (x : W32) : W32 := ror x 17 ^^^ ror x 19 ^^^ (x >>> 10)
/-- The next word of the schedule. -/
def nextW (l : List W32) (t : Nat) : W32 := l.getD (t - 16) 0 + sig0 (l.getD (t - 15) 0) + l.getD (t - 7) 0 + sig1 (l.getD (t - 2) 0)
def sched (l : List W32) : Nat → List W32
  | 0 => l
  | n + 1 => sched l n ++ [nextW (sched l n) (16 + n)]
theorem sched_len {l : List W32} (h : l.length = 16) (n : Nat) : (sched l n).length = 16 + n := by
  induction n with
  | zero => exact h
  | succ n ih => simp only [sched, List.length_append, List.length_singleton, ih]; omega

def Kl : List W32 := [
  0x428a2f98, 0x71374491, 0xb5c0fbcf, 0xe9b5dba5, 0x3956c25b, 0x59f111f1, 0x923f82a4, 0xab1c5ed5,
  0xd807aa98, 0x12835b01, 0x243185be, 0x550c7dc3, 0x72be5d74, 0x80deb1fe, 0x9bdc06a7, 0xc19bf174,
  0xe49b69c1, 0xefbe4786, 0x0fc19dc6, 0x240ca1cc, 0x2de92c6f, 0x4a7484aa, 0x5cb0a9dc, 0x76f988da,
  0x983e5152, 0xa831c66d, 0xb00327c8, 0xbf597fc7, 0xc6e00bf3, 0xd5a79147, 0x06ca6351, 0x14292967,
  0x27b70a85, 0x2e1b2138, 0x4d2c6dfc, 0x53380d13, 0x650a7354, 0x766a0abb, 0x81c2c92e, 0x92722c85,
  0xa2bfe8a1, 0xa81a664b, 0xc24b8b70, 0xc76c51a3, 0xd192e819, 0xd6990624, 0xf40e3585, 0x106aa070,
  0x19a4c116, 0x1e376c08, 0x2748774c, 0x34b0bcb5, 0x391c0cb3, 0x4ed8aa4a, 0x5b9cca4f, 0x682e6ff3,
  0x748f82ee, 0x78a5636f, 0x84c87814, 0x8cc70208, 0x90befffa, 0xa4506ceb, 0xbef9a3f7, 0xc67178f2]
theorem Kl_len : Kl.length = 64 := by decide
def rnds (w : List W32) : Nat → S8 → S8
  | 0, s => s
  | t + 1, s => roundM (Kl.getD t 0) (w.getD t 0) (rnds w t s)
def addS (s v : S8) : S8 := ⟨s.a + v.a, s.b + v.b, s.c + v.c, s.d + v.d, s.e + v.e, s.f + v.f, s.g + v.g, s.h + v.h⟩
/-- The word that four bytes are. -/
def word4 (a b c d : UInt8) : W32 := BitVec.ofNat 32 (((a.toNat * 256 + b.toNat) * 256 + c.toNat) * 256 + d.toNat)
theorem word4_toNat (a b c d : UInt8) : (word4 a b c d).toNat = ((a.toNat * 256 + b.toNat) * 256 + c.toNat) * 256 + d.toNat := by
  have := a.toNat_lt; have := b.toNat_lt; have := c.toNat_lt; have := d.toNat_lt
  unfold word4
  rw [BitVec.toNat_ofNat]
  omega
def wordAt (l : List UInt8) (t : Nat) : W32 := word4 (l.getD (4 * t) 0) (l.getD (4 * t + 1) 0) (l.getD (4 * t + 2) 0) (l.getD (4 * t + 3) 0)
def words (l : List UInt8) (n : Nat) : List W32 := (List.range n).map (wordAt l)
theorem words_len (l : List UInt8) (n : Nat) : (words l n).length = n := by simp [words]
theorem words_succ (l : List UInt8) (n : Nat) : words l (n + 1) = words l n ++ [wordAt l n] := by simp [words, List.range_succ]
def schedB (l : List UInt8) : List W32 := sched (words l 16) 48
theorem schedB_len (l : List UInt8) : (schedB l).length = 64 := sched_len (words_len l 16) 48
/-- The state after a block of 64 bytes. -/
def blockM (s : S8) (l : List UInt8) : S8 := addS s (rnds (schedB l) 64 s)
/-- The state after n blocks. -/
def absN : Nat → S8 → List UInt8 → S8
  | 0, s, _ => s
  | n + 1, s, l => absN n (blockM s (l.take 64)) (l.drop 64)
theorem blockM_take (s : S8) (l : List UInt8) : blockM s (l.take 64) = blockM s l := by
  have h : ∀ t, t < 16 → wordAt (l.take 64) t = wordAt l t := by
    intro t ht
    unfold wordAt
    simp only [List.getD_eq_getElem?_getD]
    rw [List.getElem?_take_of_lt (by omega), List.getElem?_take_of_lt (by omega), List.getElem?_take_of_lt (by omega), List.getElem?_take_of_lt (by omega)]
  have hw : words (l.take 64) 16 = words l 16 := List.map_congr_left fun t ht => h t (List.mem_range.1 ht)
  unfold blockM schedB
  rw [hw]
theorem absN_append (n m : Nat) (s : S8) (l : List UInt8) : absN (n + m) s l = absN m (absN n s l) (l.drop (64 * n)) := by
  induction n generalizing s l with
  | zero => simp [absN]
  | succ n ih =>
    rw [show n + 1 + m = (n + m) + 1 by omega]
    simp only [absN]
    rw [ih, List.drop_drop]
    congr 2
    omega
theorem absN_snoc (n : Nat) (s : S8) (l : List UInt8) : absN (n + 1) s l = blockM (absN n s l) (l.drop (64 * n)) := by
  rw [absN_append n 1]
  simp only [absN]
  exact blockM_take _ _
/-- Only the first n blocks count. -/
theorem absN_congr (n : Nat) (s : S8) (l r : List UInt8) (h : l.take (64 * n) = r.take (64 * n)) : absN n s l = absN n s r := by
  induction n generalizing s l r with
  | zero => rfl
  | succ n ih =>
    simp only [absN]
    have h1 : l.take 64 = r.take 64 := by
      have := congrArg (List.take 64) h
      rwa [List.take_take, List.take_take, show min 64 (64 * (n + 1)) = 64 by omega] at this
    have h2 : (l.drop 64).take (64 * n) = (r.drop 64).take (64 * n) := by
      have := congrArg (List.drop 64) h
      rwa [List.drop_take, List.drop_take, show 64 * (n + 1) - 64 = 64 * n by omega] at this
    rw [h1]
    exact ih _ _ _ h2
def start8 : S8 := ⟨0x6a09e667, 0xbb67ae85, 0x3c6ef372, 0xa54ff53a, 0x510e527f, 0x9b05688c, 0x1f83d9ab, 0x5be0cd19⟩
/-- A number in k bytes, the most significant one first. -/
def be : Nat → Nat → List UInt8
  | 0, _ => []
  | k + 1, n => UInt8.ofNat (n / 256 ^ k % 256) :: be k n
theorem be_len (k n : Nat) : (be k n).length = k := by
  induction k with
  | zero => rfl
  | succ k ih => simp [be, ih]
def zerosFor (n : Nat) : Nat := (119 - n % 64) % 64
def padded (b : List UInt8) : List UInt8 := b ++ ([0x80] ++ (List.replicate (zerosFor b.length) 0 ++ be 8 (b.length * 8)))
def outM (s : S8) : List UInt8 := be 4 s.a.toNat ++ be 4 s.b.toNat ++ be 4 s.c.toNat ++ be 4 s.d.toNat ++ be 4 s.e.toNat ++ be 4 s.f.toNat ++ be 4 s.g.toNat ++ be 4 s.h.toNat
theorem outM_len (s : S8) : (outM s).length = 32 := by simp [outM, be_len]
def blocksOf (n : Nat) : Nat := (n + 72) / 64
/-- SHA-256. -/
def shaM (b : List UInt8) : List UInt8 := outM (absN (blocksOf b.length) start8 (padded b))
theorem shaM_len (b : List UInt8) : (shaM b).length = 32 := outM_len _
def tagM (tag b : List UInt8) : List UInt8 := shaM (shaM tag ++ b)
theorem tagM_len (tag b : List UInt8) : (tagM tag b).length = 32 := shaM_len _
theorem padded_len (b : List UInt8) : (padded b).length = 64 * blocksOf b.length := by
  simp only [padded, List.length_append, List.length_replicate, be_len, List.length_singleton, zerosFor, blocksOf]
  omega
/-- The end of a text: one or two blocks. -/
def endM (r : List UInt8) (n : Nat) : List UInt8 := r ++ ([0x80] ++ (List.replicate (zerosFor r.length) 0 ++ be 8 (n * 8)))
theorem padded_end (b : List UInt8) : (padded b).drop (64 * (b.length / 64)) = endM (b.drop (64 * (b.length / 64))) b.length := by
  unfold padded endM
  rw [List.drop_append, show 64 * (b.length / 64) - b.length = 0 by omega, List.drop_zero]
  congr 3
  unfold zerosFor
  rw [List.length_drop, show (b.length - 64 * (b.length / 64)) % 64 = b.length % 64 by omega]
theorem shaM_parts (b : List UInt8) : shaM b = outM (absN (blocksOf (b.length % 64)) (absN (b.length / 64) start8 b) (endM (b.drop (64 * (b.length / 64))) b.length)) := by
  unfold shaM
  rw [show blocksOf b.length = b.length / 64 + blocksOf (b.length % 64) by unfold blocksOf; omega, absN_append, padded_end]
  congr 2
  refine absN_congr _ _ _ _ ?_
  unfold padded
  rw [List.take_append_of_le_length (by omega)]
end Go.Proofs.YtdfckeabafbfdaaDoor.Dr
