/- SHA-256, plain: one block, many blocks, a text filled up, taken in piece by piece. -/
import Derived.Test.YtembdkodajichaaGreatDoorMSpec
set_option linter.unusedSimpArgs false
set_option linter.unusedVariables false
namespace Go.Proofs.YtembdkodajichaaGreatDoor
open Go.RowKit
structure S8 where
 a : Int
 b : Int
 c : Int
 d : Int
 e : Int
 f : Int
 g : Int
 h : Int
def u32 (x : Int) : Int := IntKind.u32.wrap x
def xo (x y : Int) : Int := bits .xor .u32 x y
def an (x y : Int) : Int := bits .and .u32 x y
def nt (x : Int) : Int := bits .xor .u32 4294967295 x
def orr (x y : Int) : Int := bits .or .u32 x y
def rotr (n : Nat) (x : Int) : Int := orr (u32 (x * 2 ^ (32 - n))) (x / 2 ^ n)
theorem orr_comm (x y : Int) : orr x y = orr y x := by
 unfold orr bits
 simp only []
 rw [BitVec.or_comm]
def nextW (w16 w15 w7 w2 : Int) : Int := u32 (u32 (u32 (w16 + xo (xo (rotr 7 w15) (rotr 18 w15)) (w15 / 2 ^ 3)) + w7) + xo (xo (rotr 17 w2) (rotr 19 w2)) (w2 / 2 ^ 10))
def moreW : Nat → List Int → List Int
 | 0, l => l
 | n + 1, l => moreW n (l ++ [nextW (l.getD (l.length - 16) 0) (l.getD (l.length - 15) 0) (l.getD (l.length - 7) 0) (l.getD (l.length - 2) 0)])
theorem moreW_succ (n : Nat) (l : List Int) : moreW (n + 1) l = (fun m => m ++ [nextW (m.getD (m.length - 16) 0) (m.getD (m.length - 15) 0) (m.getD (m.length - 7) 0) (m.getD (m.length - 2) 0)]) (moreW n l) := by
 induction n generalizing l with
 | zero => rfl
 | succ n ih =>
   rw [moreW, ih]
   rfl
theorem moreW_len (n : Nat) (l : List Int) : (moreW n l).length = l.length + n := by
 induction n generalizing l with
 | zero => rfl
 | succ n ih => rw [moreW, ih]; simp; omega
def rX (s : S8) (k w : Int) : Int := u32 (u32 (u32 (u32 (s.h + xo (xo (rotr 6 s.e) (rotr 11 s.e)) (rotr 25 s.e)) + xo (an s.e s.f) (an (nt s.e) s.g)) + k) + w)
def rY (s : S8) : Int := u32 (xo (xo (rotr 2 s.a) (rotr 13 s.a)) (rotr 22 s.a) + xo (xo (an s.a s.b) (an s.a s.c)) (an s.b s.c))
def roundS (s : S8) (k w : Int) : S8 := ⟨u32 (rX s k w + rY s), s.a, s.b, s.c, u32 (s.d + rX s k w), s.e, s.f, s.g⟩
def roundsS : List (Int × Int) → S8 → S8
 | [], s => s
 | (k, w) :: r, s => roundsS r (roundS s k w)
theorem roundsS_snoc (l : List (Int × Int)) (k w : Int) (s : S8) : roundsS (l ++ [(k, w)]) s = roundS (roundsS l s) k w := by
 induction l generalizing s with
 | nil => rfl
 | cons x r ih => obtain ⟨a, b⟩ := x; rw [List.cons_append, roundsS, roundsS, ih]
def addS (s t : S8) : S8 := ⟨u32 (s.a + t.a), u32 (s.b + t.b), u32 (s.c + t.c), u32 (s.d + t.d), u32 (s.e + t.e), u32 (s.f + t.f), u32 (s.g + t.g), u32 (s.h + t.h)⟩
def kTab : List Int := [0x428a2f98, 0x71374491, 0xb5c0fbcf, 0xe9b5dba5, 0x3956c25b, 0x59f111f1, 0x923f82a4, 0xab1c5ed5,
 0xd807aa98, 0x12835b01, 0x243185be, 0x550c7dc3, 0x72be5d74, 0x80deb1fe, 0x9bdc06a7, 0xc19bf174,
 0xe49b69c1, 0xefbe4786, 0x0fc19dc6, 0x240ca1cc, 0x2de92c6f, 0x4a7484aa, 0x5cb0a9dc, 0x76f988da,
 0x983e5152, 0xa831c66d, 0xb00327c8, 0xbf597fc7, 0xc6e00bf3, 0xd5a79147, 0x06ca6351, 0x14292967,
 0x27b70a85, 0x2e1b2138, 0x4d2c6dfc, 0x53380d13, 0x650a7354, 0x766a0abb, 0x81c2c92e, 0x92722c85,
 0xa2bfe8a1, 0xa81a664b, 0xc24b8b70, 0xc76c51a3, 0xd192e819, 0xd6990624, 0xf40e3585, 0x106aa070,
 0x19a4c116, 0x1e376c08, 0x2748774c, 0x34b0bcb5, 0x391c0cb3, 0x4ed8aa4a, 0x5b9cca4f, 0x682e6ff3,
 0x748f82ee, 0x78a5636f, 0x84c87814, 0x8cc70208, 0x90befffa, 0xa4506ceb, 0xbef9a3f7, 0xc67178f2]
theorem kTab_len : kTab.length = 64 := by rfl
def firstS : S8 := ⟨0x6a09e667, 0xbb67ae85, 0x3c6ef372, 0xa54ff53a, 0x510e527f, 0x9b05688c, 0x1f83d9ab, 0x5be0cd19⟩
def word4 (b0 b1 b2 b3 : Int) : Int := orr (orr (orr (u32 (b0 * 2 ^ 24)) (u32 (b1 * 2 ^ 16))) (u32 (b2 * 2 ^ 8))) b3
def words16 : List UInt8 → List Int
 | b0 :: b1 :: b2 :: b3 :: r => word4 b0.toNat b1.toNat b2.toNat b3.toNat :: words16 r
 | _ => []
def wordsB (b : List UInt8) : List Int := moreW 48 (words16 b)
def takeS (s : S8) (b : List UInt8) : S8 := addS s (roundsS (kTab.zip (wordsB b)) s)
def soak (n : Nat) (s : S8) (l : List UInt8) : S8 :=
 match n with
 | 0 => s
 | n + 1 => soak n (takeS s (l.take 64)) (l.drop 64)
theorem soak_succ (n : Nat) (s : S8) (l : List UInt8) : soak (n + 1) s l = takeS (soak n s l) ((l.drop (64 * n)).take 64) := by
 induction n generalizing s l with
 | zero => simp [soak]
 | succ n ih =>
   rw [soak, ih, soak, List.drop_drop]
   congr 3
   omega
theorem soak_append (n : Nat) (s : S8) (l r : List UInt8) (h : 64 * n ≤ l.length) : soak n s (l ++ r) = soak n s l := by
 induction n generalizing s l with
 | zero => rfl
 | succ n ih =>
   rw [soak, soak, List.take_append_of_le_length om_, List.drop_append_of_le_length om_, ih _ _ so_]
structure FedS (m : List UInt8) (v : S8) (wait : List UInt8) : Prop where
 v : v = soak (m.length / 64) firstS m
 len : wait.length = 64
 rest : wait.take (m.length % 64) = m.drop (64 * (m.length / 64))
theorem fed_first : FedS [] firstS (List.replicate 64 0) := ⟨rfl, by simp, by simp⟩
theorem fed_step {m : List UInt8} {v : S8} {wait b : List UInt8} (h : FedS m v wait) (k : Nat) (hk : k = min (64 - m.length % 64) b.length) :
  (m.length + k < 64 * (m.length / 64) + 64 → FedS (m ++ b.take k) v (wait.take (m.length % 64) ++ b.take k ++ wait.drop (m.length % 64 + k))) ∧
  (m.length + k = 64 * (m.length / 64) + 64 → FedS (m ++ b.take k) (takeS v (wait.take (m.length % 64) ++ b.take k ++ wait.drop (m.length % 64 + k))) (wait.take (m.length % 64) ++ b.take k ++ wait.drop (m.length % 64 + k))) := by
 have hkb : k ≤ b.length := by omega
 have hlt : (b.take k).length = k := by rw [List.length_take]; omega
 have hw := h.len
 have hml : (m ++ b.take k).length = m.length + k := by rw [List.length_append, hlt]
 have hwl : (wait.take (m.length % 64) ++ b.take k ++ wait.drop (m.length % 64 + k)).length = 64 := by simp only [List.length_append, List.length_take, List.length_drop]; omega
 constructor
 · intro hs
   have hd : (m.length + k) / 64 = m.length / 64 := by omega
   have hmo : (m.length + k) % 64 = m.length % 64 + k := by omega
   refine ⟨?_, hwl, ?_⟩
   · rw [hml, hd, soak_append _ _ _ _ om_]; exact h.v
   · rw [hml, hmo, hd, List.take_append_of_le_length (by simp only [List.length_append, List.length_take]; omega), List.take_of_length_le (by simp only [List.length_append, List.length_take]; omega), h.rest, List.drop_append_of_le_length om_]
 · intro hs
   have hd : (m.length + k) / 64 = m.length / 64 + 1 := by omega
   have hmo : (m.length + k) % 64 = 0 := by omega
   refine ⟨?_, hwl, ?_⟩
   · rw [hml, hd, soak_succ, soak_append _ _ _ _ om_, ← h.v, h.rest]
     congr 1
     rw [List.drop_append_of_le_length om_, show wait.drop (m.length % 64 + k) = [] from List.drop_eq_nil_of_le om_, List.append_nil]
     exact (List.take_of_length_le (by simp only [List.length_append, List.length_drop, List.length_take]; omega)).symm
   · rw [hml, hmo, hd, List.take_zero, List.drop_eq_nil_of_le (by rw [List.length_append]; omega)]
def sizeB (n : Nat) : List UInt8 := [56, 48, 40, 32, 24, 16, 8, 0].map fun k => UInt8.ofNat (n * 8 / 2 ^ k % 256)
def zerosN (n : Nat) : Nat := (119 - n % 64) % 64
def filledB (b : List UInt8) : List UInt8 := b ++ [128] ++ List.replicate (zerosN b.length) 0 ++ sizeB b.length
theorem filled_len (b : List UInt8) : (filledB b).length % 64 = 0 := by
 simp only [filledB, zerosN, sizeB, List.length_append, List.length_replicate, List.length_map, List.length_cons, List.length_nil]
 omega
def sumS (b : List UInt8) : S8 := soak ((filledB b).length / 64) firstS (filledB b)
def s8L (s : S8) : List Int := [s.a, s.b, s.c, s.d, s.e, s.f, s.g, s.h]
def outB (s : S8) : List UInt8 := (s8L s).flatMap fun x => [UInt8.ofNat (x / 2 ^ 24).toNat, UInt8.ofNat (x / 2 ^ 16).toNat, UInt8.ofNat (x / 2 ^ 8).toNat, UInt8.ofNat x.toNat]
def hexC (n : Nat) : UInt8 := UInt8.ofNat (if n < 10 then 48 + n else 87 + n)
def hexB (l : List UInt8) : List UInt8 := l.flatMap fun c => [hexC (c.toNat / 16), hexC (c.toNat % 16)]
def hexT (b : List UInt8) : List UInt8 := hexB (outB (sumS b))
theorem outB_len (s : S8) : (outB s).length = 32 := by rfl
theorem hexB_len (l : List UInt8) : (hexB l).length = 2 * l.length := by
 induction l with
 | nil => rfl
 | cons x r ih => simp only [hexB, List.flatMap_cons, List.length_append, List.length_cons, List.length_nil] at *; omega
theorem hexT_len (b : List UInt8) : (hexT b).length = 64 := by rw [hexT, hexB_len, outB_len]
end Go.Proofs.YtembdkodajichaaGreatDoor
