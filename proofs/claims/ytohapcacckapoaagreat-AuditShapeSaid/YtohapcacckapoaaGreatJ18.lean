/- sip: rotations and rounds. sip: the program's round. sip: mix, take. cloakroomref12: Round. cloakroomref12: Mix. cloakroomref12: word. sip: New. sip: Write. sip: Sum, Hash. cloakroomref12: Hash. sip: words as sums. sip: the program's hash is the document's. sip: the last word; the program's hash is the document's. sip: a hash is a number of 64 bits. -/
import Derived.Test.YtohapcacckapoaaGreatJ8
import Derived.RegionTactic
import Derived.Deep.RegionHeld3
import Derived.Deep.QuietTactic
import Derived.BigQuiet
import Derived.StillTailTactics
import Derived.Lib.ConvBytes
namespace Go.Proofs.YtohapcacckapoaaGreat
open Go Go.RowKit Go.Deep
def addU (a b : Int) : Int := IntKind.u64.wrap (a + b)
def xorU (a b : Int) : Int := bits BinOp.xor IntKind.u64 a b
def rot13 (x : Int) : Int := bits BinOp.or IntKind.u64 (IntKind.u64.wrap (x * 8192)) (x / 2251799813685248)
def rot16 (x : Int) : Int := bits BinOp.or IntKind.u64 (IntKind.u64.wrap (x * 65536)) (x / 281474976710656)
def rot17 (x : Int) : Int := bits BinOp.or IntKind.u64 (IntKind.u64.wrap (x * 131072)) (x / 140737488355328)
def rot21 (x : Int) : Int := bits BinOp.or IntKind.u64 (IntKind.u64.wrap (x * 2097152)) (x / 8796093022208)
def rot32 (x : Int) : Int := bits BinOp.or IntKind.u64 (IntKind.u64.wrap (x * 4294967296)) (x / 4294967296)
structure Sip where
 a : Int
 b : Int
 c : Int
 d : Int
def sround (s : Sip) : Sip :=
 let a := addU s.a s.b
 let b := xorU (rot13 s.b) a
 let a := rot32 a
 let c := addU s.c s.d
 let d := xorU (rot16 s.d) c
 let a := addU a d
 let d := xorU (rot21 d) a
 let c := addU c b
 let b := xorU (rot17 b) c
 let c := rot32 c
 ⟨a, b, c, d⟩
def sipF (f : Nat → Value) (o : Nat) (s : Sip) : Nat → Value := fun j => if j = o then .int .u64 s.a else if j = o + 1 then .int .u64 s.b else if j = o + 2 then .int .u64 s.c else if j = o + 3 then .int .u64 s.d else f j
def siter : Nat → Sip → Sip
 | 0, s => s
 | k + 1, s => sround (siter k s)
def stake (s : Sip) (m : Int) : Sip :=
 let t := siter 2 ⟨s.a, s.b, s.c, xorU s.d m⟩
 ⟨xorU t.a m, t.b, t.c, t.d⟩
def wordL : List UInt8 → Int
 | [] => 0
 | c :: l => addU (IntKind.u64.wrap (wordL l * 256)) (IntKind.u64.wrap (c.toNat : Int))
def hasherF (s : Sip) (last count : Int) : Nat → Value := sipF (fun j => if j = 0 then .bool true else if j = 5 then .int .u64 last else .int .i64 count) 1 s
def sip0 (a b : Int) : Sip := ⟨xorU 8317987319222330741 a, xorU 7237128888997146477 b, xorU 7816392313619706465 a, xorU 8387220255154660723 b⟩
def lastS (r : Nat) (L : Int) (c : Nat) : Int := bits BinOp.or IntKind.u64 L (IntKind.u64.wrap (IntKind.u64.wrap (c : Int) * 2 ^ (8 * r)))
def hbyte (k : Nat) (st : Sip × Int) (c : Nat) : Sip × Int := if (k + 1) % 8 = 0 then (stake st.1 (lastS (k % 8) st.2 c), 0) else (st.1, lastS (k % 8) st.2 c)
def byteAt (x : ByteArray) (k : Nat) : Nat := (x.data.toList.getD k 0).toNat
def hrun (x : ByteArray) (s : Sip) : Nat → Sip × Int
 | 0 => (s, 0)
 | k + 1 => hbyte k (hrun x s k) (byteAt x k)
def endWord (L C : Int) : Int := bits BinOp.or IntKind.u64 L (IntKind.u64.wrap (IntKind.u64.wrap C * 72057594037927936))
def sipEnd (t : Sip) : Int :=
 let u := siter 4 ⟨t.a, t.b, xorU t.c 255, t.d⟩
 xorU (xorU (xorU u.a u.b) u.c) u.d
def sipHash (a b : Int) (x : ByteArray) : Int := sipEnd (stake (hrun x (sip0 a b) x.size).1 (endWord (hrun x (sip0 a b) x.size).2 x.size))
def lastW (x : ByteArray) : Int := IntKind.u64.wrap (wordL (x.extract (8 * (x.size / 8)) x.size).data.toList + (x.size : Int) % 256 * 72057594037927936)
def mw (x : ByteArray) (k : Nat) : Int := if k = x.size / 8 then lastW x else wordL (x.extract (8 * k) (8 * k + 8)).data.toList
def bs (x : ByteArray) (S : Sip) : Nat → Sip
 | 0 => S
 | k + 1 => stake (bs x S k) (mw x k)
def wn : List UInt8 → Nat
 | [] => 0
 | c :: l => wn l * 256 + c.toNat
def tailB (x : ByteArray) (k : Nat) : List UInt8 := (x.data.toList.drop (8 * (k / 8))).take (k % 8)
end Go.Proofs.YtohapcacckapoaaGreat
