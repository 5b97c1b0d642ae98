/-
  The plain model of SHA-256 over bits: words, the schedule, the rounds, the padding, and the hash as bytes; and a strict form of it that the kernel can reckon. No program in sight; no condition.
-/
import Derived.Test.YthlkgmdkabelpaaGreatDoorW
namespace Go.Proofs.YthlkgmdkabelpaaGreatDoor
open Go Go.RowKit
set_option linter.unusedVariables false

/-- a word of 32 bits -/
abbrev W32 := BitVec 32
def rotr (x : W32) (n : Nat) : W32 := (x >>> n) ||| (x <<< (32 - n))
def sg0 (x : W32) : W32 := rotr x 7 ^^^ rotr x 18 ^^^ x >>> 3
def sg1 (y : W32) : W32 := rotr y 17 ^^^ rotr y 19 ^^^ y >>> 10
def bs0 (x : W32) : W32 := rotr x 2 ^^^ rotr x 13 ^^^ rotr x 22
def bs1 (x : W32) : W32 := rotr x 6 ^^^ rotr x 11 ^^^ rotr x 25
def chF (e f g : W32) : W32 := (e &&& f) ^^^ ((~~~ e) &&& g)
def maF (a b c : W32) : W32 := ((a &&& b) ^^^ (a &&& c)) ^^^ (b &&& c)

def kc : List W32 := [
  0x428a2f98, 0x71374491, 0xb5c0fbcf, 0xe9b5dba5, 0x3956c25b, 0x59f111f1, 0x923f82a4, 0xab1c5ed5,
  0xd807aa98, 0x12835b01, 0x243185be, 0x550c7dc3, 0x72be5d74, 0x80deb1fe, 0x9bdc06a7, 0xc19bf174,
  0xe49b69c1, 0xefbe4786, 0x0fc19dc6, 0x240ca1cc, 0x2de92c6f, 0x4a7484aa, 0x5cb0a9dc, 0x76f988da,
  0x983e5152, 0xa831c66d, 0xb00327c8, 0xbf597fc7, 0xc6e00bf3, 0xd5a79147, 0x06ca6351, 0x14292967,
  0x27b70a85, 0x2e1b2138, 0x4d2c6dfc, 0x53380d13, 0x650a7354, 0x766a0abb, 0x81c2c92e, 0x92722c85,
  0xa2bfe8a1, 0xa81a664b, 0xc24b8b70, 0xc76c51a3, 0xd192e819, 0xd6990624, 0xf40e3585, 0x106aa070,
  0x19a4c116, 0x1e376c08, 0x2748774c, 0x34b0bcb5, 0x391c0cb3, 0x4ed8aa4a, 0x5b9cca4f, 0x682e6ff3,
  0x748f82ee, 0x78a5636f, 0x84c87814, 0x8cc70208, 0x90befffa, 0xa4506ceb, 0xbef9a3f7, 0xc67178f2]
def iv : List W32 := [0x6a09e667, 0xbb67ae85, 0x3c6ef372, 0xa54ff53a, 0x510e527f, 0x9b05688c, 0x1f83d9ab, 0x5be0cd19]

/-- the word at i of a list of words -/
def wAt (l : List W32) (i : Nat) : W32 := l.getD i 0
def b32 (x : UInt8) : W32 := BitVec.ofNat 32 x.toNat
/-- the word of four bytes -/
def word4 (a b c d : UInt8) : W32 := ((b32 a <<< 24 ||| b32 b <<< 16) ||| b32 c <<< 8) ||| b32 d
def wordAt (b : List UInt8) (i : Nat) : W32 := word4 (b.getD (4 * i) 0) (b.getD (4 * i + 1) 0) (b.getD (4 * i + 2) 0) (b.getD (4 * i + 3) 0)
/-- the next word of a schedule -/
def nextW (b : List UInt8) (W : List W32) : W32 :=
  if W.length < 16 then wordAt b W.length
  else wAt W (W.length - 16) + sg0 (wAt W (W.length - 15)) + wAt W (W.length - 7) + sg1 (wAt W (W.length - 2))
def sched (b : List UInt8) : Nat → List W32
  | 0 => []
  | i + 1 => sched b i ++ [nextW b (sched b i)]
theorem sched_length (b : List UInt8) : ∀ i, (sched b i).length = i
  | 0 => rfl
  | i + 1 => by simp [sched, sched_length b i]
theorem sched_get (b : List UInt8) (n : Nat) : ∀ i, i < n → wAt (sched b n) i = nextW b (sched b i) := by
  induction n with
  | zero => intro i h; omega
  | succ n ih =>
    intro i h
    unfold wAt
    show ((sched b n) ++ [nextW b (sched b n)]).getD i 0 = _
    by_cases hi : i = n
    · subst hi
      have hl := sched_length b i
      simp [List.getD, hl]
    · have := ih i (by omega)
      unfold wAt at this
      rw [← this]
      have hl := sched_length b n
      simp only [List.getD_eq_getElem?_getD]
      rw [List.getElem?_append_left (by omega)]

/-- the eight words of a state -/
structure S8 where
  a : W32
  b : W32
  c : W32
  d : W32
  e : W32
  f : W32
  g : W32
  h : W32
deriving DecidableEq
def S8.list (s : S8) : List W32 := [s.a, s.b, s.c, s.d, s.e, s.f, s.g, s.h]
def S8.of (l : List W32) : S8 := ⟨wAt l 0, wAt l 1, wAt l 2, wAt l 3, wAt l 4, wAt l 5, wAt l 6, wAt l 7⟩
theorem S8.of_list (s : S8) : S8.of s.list = s := rfl
def rT (s : S8) (k w : W32) : W32 := s.h + bs1 s.e + chF s.e s.f s.g + k + w
def rU (s : S8) : W32 := bs0 s.a + maF s.a s.b s.c
/-- one round -/
def rnd (s : S8) (k w : W32) : S8 := ⟨rT s k w + rU s, s.a, s.b, s.c, s.d + rT s k w, s.e, s.f, s.g⟩
/-- the rounds up to n -/
def rnds (W : List W32) (s : S8) : Nat → S8
  | 0 => s
  | i + 1 => rnd (rnds W s i) (wAt kc i) (wAt W i)
def addS (s t : S8) : S8 := ⟨s.a + t.a, s.b + t.b, s.c + t.c, s.d + t.d, s.e + t.e, s.f + t.f, s.g + t.g, s.h + t.h⟩
/-- a block added to a state -/
def blk (s : S8) (b : List UInt8) : S8 := addS s (rnds (sched b 64) s 64)
/-- the blocks up to n of a message -/
def blks (m : List UInt8) : Nat → S8
  | 0 => S8.of iv
  | i + 1 => blk (blks m i) ((m.drop (64 * i)).take 64)

/-- how many zero bytes are laid behind the mark -/
def zerosN (n : Nat) : Nat := (120 - (n + 1) % 64) % 64
def byteAt (n sh : Nat) : UInt8 := UInt8.ofNat (n / 2 ^ sh)
def be64 (n : Nat) : List UInt8 := [byteAt n 56, byteAt n 48, byteAt n 40, byteAt n 32, byteAt n 24, byteAt n 16, byteAt n 8, byteAt n 0]
def padL (l : List UInt8) : List UInt8 := l ++ [0x80] ++ List.replicate (zerosN l.length) 0 ++ be64 (8 * l.length)
theorem padL_length (l : List UInt8) : (padL l).length = l.length + 1 + zerosN l.length + 8 := by simp [padL, be64]; omega
theorem padL_mod (l : List UInt8) : (padL l).length % 64 = 0 := by rw [padL_length]; unfold zerosN; omega
def byteW (x : W32) (sh : Nat) : UInt8 := UInt8.ofNat ((x >>> sh).toNat)
def bytesW (x : W32) : List UInt8 := [byteW x 24, byteW x 16, byteW x 8, byteW x 0]
/-- the hash, as 32 bytes -/
def sha (l : List UInt8) : List UInt8 := (blks (padL l) ((padL l).length / 64)).list.flatMap bytesW
theorem sha_length (l : List UInt8) : (sha l).length = 32 := by simp [sha, S8.list, bytesW]

def hexd (n : Nat) : UInt8 := UInt8.ofNat (if n < 10 then 48 + n else 87 + n)
/-- the text of bytes -/
def textL (l : List UInt8) : List UInt8 := l.flatMap fun x => [hexd (x.toNat / 16), hexd (x.toNat % 16)]
theorem textL_length (l : List UInt8) : (textL l).length = 2 * l.length := by
  induction l with
  | nil => rfl
  | cons x l ih => simp only [textL, List.flatMap_cons, List.length_append] at ih ⊢; simp [ih]; omega

/-! ## A strict form -/
def fN {α : Type} (n : Nat) (k : Nat → α) : α := match n with
  | 0 => k 0
  | m + 1 => k (m + 1)
theorem fN_eq {α : Type} (n : Nat) (k : Nat → α) : fN n k = k n := by cases n <;> rfl
def fW {α : Type} (x : W32) (k : W32 → α) : α := fN x.toNat fun n => k (BitVec.ofNat 32 n)
theorem fW_eq {α : Type} (x : W32) (k : W32 → α) : fW x k = k x := by unfold fW; rw [fN_eq]; simp
def schedF {α : Type} (b : List UInt8) : Nat → List W32 → (List W32 → α) → α
  | 0, W, k => k W
  | i + 1, W, k => fW (nextW b W) fun x => schedF b i (W ++ [x]) k
theorem schedF_eq {α : Type} (b : List UInt8) (k : List W32 → α) : ∀ (i j : Nat), schedF b i (sched b j) k = k (sched b (j + i))
  | 0, _ => rfl
  | i + 1, j => by
    unfold schedF
    rw [fW_eq]
    have := schedF_eq b k i (j + 1)
    rw [show sched b (j + 1) = sched b j ++ [nextW b (sched b j)] from rfl] at this
    rw [this]
    congr 2
    omega
def rndsF {α : Type} (W : List W32) : Nat → Nat → S8 → (S8 → α) → α
  | 0, _, s, k => k s
  | n + 1, i, s, k => fW (rT s (wAt kc i) (wAt W i)) fun t => fW (t + rU s) fun x => fW (s.d + t) fun y => rndsF W n (i + 1) ⟨x, s.a, s.b, s.c, y, s.e, s.f, s.g⟩ k
theorem rndsF_eq {α : Type} (W : List W32) (s : S8) (k : S8 → α) : ∀ (n i : Nat), rndsF W n i (rnds W s i) k = k (rnds W s (i + n))
  | 0, _ => rfl
  | n + 1, i => by
    unfold rndsF
    rw [fW_eq, fW_eq, fW_eq]
    have := rndsF_eq W s k n (i + 1)
    rw [show rnds W s (i + 1) = rnd (rnds W s i) (wAt kc i) (wAt W i) from rfl] at this
    unfold rnd at this
    rw [this]
    congr 2
    omega
def fS {α : Type} (s : S8) (k : S8 → α) : α := fW s.a fun a => fW s.b fun b => fW s.c fun c => fW s.d fun d => fW s.e fun e => fW s.f fun f => fW s.g fun g => fW s.h fun h => k ⟨a, b, c, d, e, f, g, h⟩
theorem fS_eq {α : Type} (s : S8) (k : S8 → α) : fS s k = k s := by unfold fS; simp only [fW_eq]
def blkF {α : Type} (s : S8) (b : List UInt8) (k : S8 → α) : α := schedF b 64 [] fun W => rndsF W 64 0 s fun t => fS (addS s t) k
theorem blkF_eq {α : Type} (s : S8) (b : List UInt8) (k : S8 → α) : blkF s b k = k (blk s b) := by
  unfold blkF
  have h1 := schedF_eq b (fun W => rndsF W 64 0 s fun t => fS (addS s t) k) 64 0
  rw [show sched b 0 = [] from rfl] at h1
  rw [h1]
  have h2 := rndsF_eq (sched b (0 + 64)) s (fun t => fS (addS s t) k) 64 0
  rw [show rnds (sched b (0 + 64)) s 0 = s from rfl] at h2
  rw [h2, fS_eq]
  rfl
theorem sha_empty : textL (sha []) = [101, 51, 98, 48, 99, 52, 52, 50, 57, 56, 102, 99, 49, 99, 49, 52, 57, 97, 102, 98, 102, 52, 99, 56, 57, 57, 54, 102, 98, 57, 50, 52, 50, 55, 97, 101, 52, 49, 101, 52, 54, 52, 57, 98, 57, 51, 52, 99, 97, 52, 57, 53, 57, 57, 49, 98, 55, 56, 53, 50, 98, 56, 53, 53] := by
  have h : ∀ (P : S8 → Bool) (m : List UInt8), blkF (S8.of iv) ((m.drop (64 * 0)).take 64) P = P (blks m 1) := fun P m => by rw [blkF_eq]; rfl
  have e := h (fun s => textL (s.list.flatMap bytesW) == [101, 51, 98, 48, 99, 52, 52, 50, 57, 56, 102, 99, 49, 99, 49, 52, 57, 97, 102, 98, 102, 52, 99, 56, 57, 57, 54, 102, 98, 57, 50, 52, 50, 55, 97, 101, 52, 49, 101, 52, 54, 52, 57, 98, 57, 51, 52, 99, 97, 52, 57, 53, 57, 57, 49, 98, 55, 56, 53, 50, 98, 56, 53, 53]) (padL [])
  have l : (padL []).length / 64 = 1 := by decide +kernel
  unfold sha
  rw [l]
  rw [show blkF (S8.of iv) (((padL []).drop (64 * 0)).take 64) (fun s => textL (s.list.flatMap bytesW) == [101, 51, 98, 48, 99, 52, 52, 50, 57, 56, 102, 99, 49, 99, 49, 52, 57, 97, 102, 98, 102, 52, 99, 56, 57, 57, 54, 102, 98, 57, 50, 52, 50, 55, 97, 101, 52, 49, 101, 52, 54, 52, 57, 98, 57, 51, 52, 99, 97, 52, 57, 53, 57, 57, 49, 98, 55, 56, 53, 50, 98, 56, 53, 53]) = true from by decide +kernel] at e
  exact eq_of_beq e.symm
theorem sha_abc : textL (sha [97, 98, 99]) = [98, 97, 55, 56, 49, 54, 98, 102, 56, 102, 48, 49, 99, 102, 101, 97, 52, 49, 52, 49, 52, 48, 100, 101, 53, 100, 97, 101, 50, 50, 50, 51, 98, 48, 48, 51, 54, 49, 97, 51, 57, 54, 49, 55, 55, 97, 57, 99, 98, 52, 49, 48, 102, 102, 54, 49, 102, 50, 48, 48, 49, 53, 97, 100] := by
  have h : ∀ (P : S8 → Bool) (m : List UInt8), blkF (S8.of iv) ((m.drop (64 * 0)).take 64) P = P (blks m 1) := fun P m => by rw [blkF_eq]; rfl
  have e := h (fun s => textL (s.list.flatMap bytesW) == [98, 97, 55, 56, 49, 54, 98, 102, 56, 102, 48, 49, 99, 102, 101, 97, 52, 49, 52, 49, 52, 48, 100, 101, 53, 100, 97, 101, 50, 50, 50, 51, 98, 48, 48, 51, 54, 49, 97, 51, 57, 54, 49, 55, 55, 97, 57, 99, 98, 52, 49, 48, 102, 102, 54, 49, 102, 50, 48, 48, 49, 53, 97, 100]) (padL [97, 98, 99])
  have l : (padL [97, 98, 99]).length / 64 = 1 := by decide +kernel
  unfold sha
  rw [l]
  rw [show blkF (S8.of iv) (((padL [97, 98, 99]).drop (64 * 0)).take 64) (fun s => textL (s.list.flatMap bytesW) == [98, 97, 55, 56, 49, 54, 98, 102, 56, 102, 48, 49, 99, 102, 101, 97, 52, 49, 52, 49, 52, 48, 100, 101, 53, 100, 97, 101, 50, 50, 50, 51, 98, 48, 48, 51, 54, 49, 97, 51, 57, 54, 49, 55, 55, 97, 57, 99, 98, 52, 49, 48, 102, 102, 54, 49, 102, 50, 48, 48, 49, 53, 97, 100]) = true from by decide +kernel] at e
  exact eq_of_beq e.symm
end Go.Proofs.YthlkgmdkabelpaaGreatDoor
