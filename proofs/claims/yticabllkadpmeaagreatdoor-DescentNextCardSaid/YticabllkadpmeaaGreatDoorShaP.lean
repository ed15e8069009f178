/- SHA-256, plainly: words as UInt32. Of no program. -/
namespace Go.Proofs.YticabllkadpmeaaGreatDoor
set_option linter.unusedVariables false
set_option linter.unusedSimpArgs false
set_option linter.unnecessarySimpa false
namespace Sha

/-- A word, turned right. -/
def rot (x : UInt32) (k : UInt32) : UInt32 := x >>> k ||| x <<< (32 - k)
def s0 (x : UInt32) : UInt32 := rot x 7 ^^^ rot x 18 ^^^ x >>> 3
def s1 (x : UInt32) : UInt32 := rot x 17 ^^^ rot x 19 ^^^ x >>> 10
def S0 (x : UInt32) : UInt32 := rot x 2 ^^^ rot x 13 ^^^ rot x 22
def S1 (x : UInt32) : UInt32 := rot x 6 ^^^ rot x 11 ^^^ rot x 25
def ch (e f g : UInt32) : UInt32 := e &&& f ^^^ ~~~e &&& g
def mj (a b c : UInt32) : UInt32 := a &&& b ^^^ a &&& c ^^^ b &&& c
/-- The words at first. -/
def first : List UInt32 := [0x6a09e667, 0xbb67ae85, 0x3c6ef372, 0xa54ff53a, 0x510e527f, 0x9b05688c, 0x1f83d9ab, 0x5be0cd19]
/-- The numbers of the rounds. -/
def roots : List UInt32 := [
  0x428a2f98, 0x71374491, 0xb5c0fbcf, 0xe9b5dba5, 0x3956c25b, 0x59f111f1, 0x923f82a4, 0xab1c5ed5,
  0xd807aa98, 0x12835b01, 0x243185be, 0x550c7dc3, 0x72be5d74, 0x80deb1fe, 0x9bdc06a7, 0xc19bf174,
  0xe49b69c1, 0xefbe4786, 0x0fc19dc6, 0x240ca1cc, 0x2de92c6f, 0x4a7484aa, 0x5cb0a9dc, 0x76f988da,
  0x983e5152, 0xa831c66d, 0xb00327c8, 0xbf597fc7, 0xc6e00bf3, 0xd5a79147, 0x06ca6351, 0x14292967,
  0x27b70a85, 0x2e1b2138, 0x4d2c6dfc, 0x53380d13, 0x650a7354, 0x766a0abb, 0x81c2c92e, 0x92722c85,
  0xa2bfe8a1, 0xa81a664b, 0xc24b8b70, 0xc76c51a3, 0xd192e819, 0xd6990624, 0xf40e3585, 0x106aa070,
  0x19a4c116, 0x1e376c08, 0x2748774c, 0x34b0bcb5, 0x391c0cb3, 0x4ed8aa4a, 0x5b9cca4f, 0x682e6ff3,
  0x748f82ee, 0x78a5636f, 0x84c87814, 0x8cc70208, 0x90befffa, 0xa4506ceb, 0xbef9a3f7, 0xc67178f2]
/-- The word at place i of a block. -/
def wordAt (b : List UInt8) (i : Nat) : UInt32 :=
  (b.getD (4 * i) 0).toUInt32 <<< 24 ||| (b.getD (4 * i + 1) 0).toUInt32 <<< 16 ||| (b.getD (4 * i + 2) 0).toUInt32 <<< 8 ||| (b.getD (4 * i + 3) 0).toUInt32
/-- The next word of those of a block. -/
def next (l : List UInt32) : UInt32 := l.getD (l.length - 16) 0 + s0 (l.getD (l.length - 15) 0) + l.getD (l.length - 7) 0 + s1 (l.getD (l.length - 2) 0)
/-- The first n words of a block's 64 (n from 16 on: 16 and more). -/
def wordsTo (b : List UInt8) (n : Nat) : List UInt32 := (List.range n).map (wordAt b)
def more (l : List UInt32) : Nat → List UInt32
  | 0 => l
  | n + 1 => more l n ++ [next (more l n)]
def sched (b : List UInt8) : List UInt32 := more (wordsTo b 16) 48
/-- Eight words. -/
structure St where
  (a b c d e f g h : UInt32)
def St.list (s : St) : List UInt32 := [s.a, s.b, s.c, s.d, s.e, s.f, s.g, s.h]
def St.t1 (s : St) (k w : UInt32) : UInt32 := s.h + S1 s.e + ch s.e s.f s.g + k + w
def St.t2 (s : St) : UInt32 := S0 s.a + mj s.a s.b s.c
def St.step (s : St) (k w : UInt32) : St := ⟨s.t1 k w + s.t2, s.a, s.b, s.c, s.d + s.t1 k w, s.e, s.f, s.g⟩
def St.plus (s t : St) : St := ⟨s.a + t.a, s.b + t.b, s.c + t.c, s.d + t.d, s.e + t.e, s.f + t.f, s.g + t.g, s.h + t.h⟩
def St.first : St := ⟨0x6a09e667, 0xbb67ae85, 0x3c6ef372, 0xa54ff53a, 0x510e527f, 0x9b05688c, 0x1f83d9ab, 0x5be0cd19⟩
/-- Behind j rounds. -/
def St.steps (s : St) (w : List UInt32) : Nat → St
  | 0 => s
  | j + 1 => (s.steps w j).step (roots.getD j 0) (w.getD j 0)
/-- A block is taken. -/
def St.take (s : St) (b : List UInt8) : St := s.plus (s.steps (sched b) 64)
/-- n blocks of some bytes are taken. -/
def St.takes (s : St) (l : List UInt8) : Nat → St
  | 0 => s
  | n + 1 => (s.takes l n).take ((l.drop (64 * n)).take 64)
/-- The eight bytes of a number, the highest first. -/
def be64 (n : Nat) : List UInt8 := (List.range 8).map fun i => UInt8.ofNat (n / 256 ^ (7 - i))
/-- How many zeros are put behind. -/
def zeros (n : Nat) : Nat := (119 - n % 64) % 64
/-- What is put behind bytes. -/
def pad (l : List UInt8) : List UInt8 := l ++ [128] ++ List.replicate (zeros l.length) 0 ++ be64 (l.length * 8 % 18446744073709551616)
/-- The bytes of words. -/
def out (s : St) : List UInt8 := (List.range 32).map fun i => UInt8.ofNat ((s.list.getD (i / 4) 0).toNat / 2 ^ (24 - 8 * (i % 4)))
/-- The hash of bytes. -/
def sum (l : List UInt8) : List UInt8 := out (St.first.takes (pad l) ((pad l).length / 64))

theorem more_length (l : List UInt32) : ∀ n, (more l n).length = l.length + n
  | 0 => rfl
  | n + 1 => by simp [more, more_length l n]; omega
theorem wordsTo_length (b : List UInt8) (n : Nat) : (wordsTo b n).length = n := by simp [wordsTo]
theorem sched_length (b : List UInt8) : (sched b).length = 64 := by simp [sched, more_length, wordsTo_length]
theorem sum_length (l : List UInt8) : (sum l).length = 32 := by simp [sum, out]
theorem be64_length (n : Nat) : (be64 n).length = 8 := by simp [be64]
theorem pad_length (l : List UInt8) : (pad l).length % 64 = 0 := by
  simp only [pad, List.length_append, List.length_replicate, be64_length, List.length_singleton, zeros]
  omega
end Sha
end Go.Proofs.YticabllkadpmeaaGreatDoor
