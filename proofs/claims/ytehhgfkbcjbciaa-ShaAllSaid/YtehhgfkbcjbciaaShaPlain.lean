/- SHA-256: the plain laws. -/
import Derived.Test.YtehhgfkbcjbciaaWords
import Derived.Test.YtehhgfkbcjbciaaNumPlain
namespace Go.Proofs.Ytehhgfkbcjbciaa

/-- turned right -/
def rotr (x : W32) (n : Nat) : W32 := (x >>> n) ||| (x <<< (32 - n))

def sg0 (x : W32) : W32 := rotr x 7 ^^^ rotr x 18 ^^^ (x >>> (3 : Nat))
def sg1 (x : W32) : W32 := rotr x 17 ^^^ rotr x 19 ^^^ (x >>> (10 : Nat))
def SG0 (x : W32) : W32 := rotr x 2 ^^^ rotr x 13 ^^^ rotr x 22
def SG1 (x : W32) : W32 := rotr x 6 ^^^ rotr x 11 ^^^ rotr x 25
def chf (e f g : W32) : W32 := (e &&& f) ^^^ (~~~e &&& g)
def maj (a b c : W32) : W32 := (a &&& b) ^^^ (a &&& c) ^^^ (b &&& c)

/-- the first words -/
def h0s : List W32 := [0x6a09e667#32, 0xbb67ae85#32, 0x3c6ef372#32, 0xa54ff53a#32, 0x510e527f#32, 0x9b05688c#32, 0x1f83d9ab#32, 0x5be0cd19#32]

/-- the words of the rounds -/
def ks : List W32 := [
  0x428a2f98#32, 0x71374491#32, 0xb5c0fbcf#32, 0xe9b5dba5#32, 0x3956c25b#32, 0x59f111f1#32, 0x923f82a4#32, 0xab1c5ed5#32,
  0xd807aa98#32, 0x12835b01#32, 0x243185be#32, 0x550c7dc3#32, 0x72be5d74#32, 0x80deb1fe#32, 0x9bdc06a7#32, 0xc19bf174#32,
  0xe49b69c1#32, 0xefbe4786#32, 0x0fc19dc6#32, 0x240ca1cc#32, 0x2de92c6f#32, 0x4a7484aa#32, 0x5cb0a9dc#32, 0x76f988da#32,
  0x983e5152#32, 0xa831c66d#32, 0xb00327c8#32, 0xbf597fc7#32, 0xc6e00bf3#32, 0xd5a79147#32, 0x06ca6351#32, 0x14292967#32,
  0x27b70a85#32, 0x2e1b2138#32, 0x4d2c6dfc#32, 0x53380d13#32, 0x650a7354#32, 0x766a0abb#32, 0x81c2c92e#32, 0x92722c85#32,
  0xa2bfe8a1#32, 0xa81a664b#32, 0xc24b8b70#32, 0xc76c51a3#32, 0xd192e819#32, 0xd6990624#32, 0xf40e3585#32, 0x106aa070#32,
  0x19a4c116#32, 0x1e376c08#32, 0x2748774c#32, 0x34b0bcb5#32, 0x391c0cb3#32, 0x4ed8aa4a#32, 0x5b9cca4f#32, 0x682e6ff3#32,
  0x748f82ee#32, 0x78a5636f#32, 0x84c87814#32, 0x8cc70208#32, 0x90befffa#32, 0xa4506ceb#32, 0xbef9a3f7#32, 0xc67178f2#32]

/-- a word out of four bytes of a block -/
def word (b : List UInt8) (i : Nat) : W32 := BitVec.ofNat 32 (get ((b.drop (4 * i)).take 4))

/-- the words of a block, the first n -/
def sched (b : List UInt8) : Nat → List W32
  | 0 => []
  | n + 1 =>
    let w := sched b n
    w ++ [if n < 16 then word b n else w.getD (n - 16) 0 + sg0 (w.getD (n - 15) 0) + w.getD (n - 7) 0 + sg1 (w.getD (n - 2) 0)]

theorem sched_len (b : List UInt8) (n : Nat) : (sched b n).length = n := by
  induction n with
  | zero => rfl
  | succ n ih => simp [sched, ih]

/-- one round -/
def rnd (s : List W32) (k w : W32) : List W32 :=
  let one := s.getD 7 0 + SG1 (s.getD 4 0) + chf (s.getD 4 0) (s.getD 5 0) (s.getD 6 0) + k + w
  let two := SG0 (s.getD 0 0) + maj (s.getD 0 0) (s.getD 1 0) (s.getD 2 0)
  [one + two, s.getD 0 0, s.getD 1 0, s.getD 2 0, s.getD 3 0 + one, s.getD 4 0, s.getD 5 0, s.getD 6 0]

/-- the first n rounds -/
def rnds (h : List W32) (b : List UInt8) : Nat → List W32
  | 0 => h
  | n + 1 => rnd (rnds h b n) (ks.getD n 0) ((sched b 64).getD n 0)

/-- a block mixed in -/
def mixS (h : List W32) (b : List UInt8) : List W32 := List.zipWith (· + ·) h (rnds h b 64)

/-- blocks, one behind the other; n of them -/
def blocks (h : List W32) (b : List UInt8) : Nat → List W32
  | 0 => h
  | n + 1 => mixS (blocks h b n) ((b.drop (64 * n)).take 64)

/-- a text, filled up -/
def padded (b : List UInt8) : List UInt8 := b ++ [128] ++ List.replicate ((119 - b.length % 64) % 64) 0 ++ put (b.length * 8) 8

/-- the digest -/
def sha (b : List UInt8) : List UInt8 := (blocks h0s (padded b) ((padded b).length / 64)).flatMap fun x => put x.toNat 4

end Go.Proofs.Ytehhgfkbcjbciaa
