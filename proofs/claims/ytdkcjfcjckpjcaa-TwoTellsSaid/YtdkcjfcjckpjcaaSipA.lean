/- sip: rotations and rounds. -/
import Derived.Test.YtdkcjfcjckpjcaaSlices
import Derived.RegionTactic
import Derived.Deep.RegionHeld3
import Derived.Deep.QuietTactic
import Derived.BigQuiet
import Derived.StillTailTactics
namespace Go.Proofs.Ytdkcjfcjckpjcaa
open Go Go.RowKit Go.Deep

def addU (a b : Int) : Int := IntKind.u64.wrap (a + b)
def xorU (a b : Int) : Int := bits BinOp.xor IntKind.u64 a b
def rot13 (x : Int) : Int := bits BinOp.or IntKind.u64 (IntKind.u64.wrap (x * 8192)) (x / 2251799813685248)
theorem rot13_any (x : Int) (w : World) : Calls Try.prog 154 #[.int .u64 x, .int .i64 13] w fun e w' => e = .returned (.int .u64 (rot13 x)) ∧ w = w' := by
  have hb : bits BinOp.and IntKind.u64 13 63 = 13 := by decide
  go_enter Try.func154, Try.ntmps154
  go_wp2
  go_ret
  exact ⟨rfl, rfl⟩
theorem turn13_any (x : Int) (w : World) : Calls Try.prog 150 #[.int .u64 x, .int .i64 13] w fun e w' => e = .returned (.int .u64 (rot13 x)) ∧ Below w.heap.size w w' := by
  go_enter Try.func150, Try.ntmps150
  go_wp2
  go_quiet (fail)
  go_wp2
  go_ret
  exact ⟨rfl, below_drewN (Below.refl _ _) _⟩
def rot16 (x : Int) : Int := bits BinOp.or IntKind.u64 (IntKind.u64.wrap (x * 65536)) (x / 281474976710656)
theorem rot16_any (x : Int) (w : World) : Calls Try.prog 154 #[.int .u64 x, .int .i64 16] w fun e w' => e = .returned (.int .u64 (rot16 x)) ∧ w = w' := by
  have hb : bits BinOp.and IntKind.u64 16 63 = 16 := by decide
  go_enter Try.func154, Try.ntmps154
  go_wp2
  go_ret
  exact ⟨rfl, rfl⟩
theorem turn16_any (x : Int) (w : World) : Calls Try.prog 150 #[.int .u64 x, .int .i64 16] w fun e w' => e = .returned (.int .u64 (rot16 x)) ∧ Below w.heap.size w w' := by
  go_enter Try.func150, Try.ntmps150
  go_wp2
  go_quiet (fail)
  go_wp2
  go_ret
  exact ⟨rfl, below_drewN (Below.refl _ _) _⟩
def rot17 (x : Int) : Int := bits BinOp.or IntKind.u64 (IntKind.u64.wrap (x * 131072)) (x / 140737488355328)
theorem rot17_any (x : Int) (w : World) : Calls Try.prog 154 #[.int .u64 x, .int .i64 17] w fun e w' => e = .returned (.int .u64 (rot17 x)) ∧ w = w' := by
  have hb : bits BinOp.and IntKind.u64 17 63 = 17 := by decide
  go_enter Try.func154, Try.ntmps154
  go_wp2
  go_ret
  exact ⟨rfl, rfl⟩
theorem turn17_any (x : Int) (w : World) : Calls Try.prog 150 #[.int .u64 x, .int .i64 17] w fun e w' => e = .returned (.int .u64 (rot17 x)) ∧ Below w.heap.size w w' := by
  go_enter Try.func150, Try.ntmps150
  go_wp2
  go_quiet (fail)
  go_wp2
  go_ret
  exact ⟨rfl, below_drewN (Below.refl _ _) _⟩
def rot21 (x : Int) : Int := bits BinOp.or IntKind.u64 (IntKind.u64.wrap (x * 2097152)) (x / 8796093022208)
theorem rot21_any (x : Int) (w : World) : Calls Try.prog 154 #[.int .u64 x, .int .i64 21] w fun e w' => e = .returned (.int .u64 (rot21 x)) ∧ w = w' := by
  have hb : bits BinOp.and IntKind.u64 21 63 = 21 := by decide
  go_enter Try.func154, Try.ntmps154
  go_wp2
  go_ret
  exact ⟨rfl, rfl⟩
theorem turn21_any (x : Int) (w : World) : Calls Try.prog 150 #[.int .u64 x, .int .i64 21] w fun e w' => e = .returned (.int .u64 (rot21 x)) ∧ Below w.heap.size w w' := by
  go_enter Try.func150, Try.ntmps150
  go_wp2
  go_quiet (fail)
  go_wp2
  go_ret
  exact ⟨rfl, below_drewN (Below.refl _ _) _⟩
def rot32 (x : Int) : Int := bits BinOp.or IntKind.u64 (IntKind.u64.wrap (x * 4294967296)) (x / 4294967296)
theorem rot32_any (x : Int) (w : World) : Calls Try.prog 154 #[.int .u64 x, .int .i64 32] w fun e w' => e = .returned (.int .u64 (rot32 x)) ∧ w = w' := by
  have hb : bits BinOp.and IntKind.u64 32 63 = 32 := by decide
  go_enter Try.func154, Try.ntmps154
  go_wp2
  go_ret
  exact ⟨rfl, rfl⟩
theorem turn32_any (x : Int) (w : World) : Calls Try.prog 150 #[.int .u64 x, .int .i64 32] w fun e w' => e = .returned (.int .u64 (rot32 x)) ∧ Below w.heap.size w w' := by
  go_enter Try.func150, Try.ntmps150
  go_wp2
  go_quiet (fail)
  go_wp2
  go_ret
  exact ⟨rfl, below_drewN (Below.refl _ _) _⟩

structure Sip where
  a : Int
  b : Int
  c : Int
  d : Int
def sround (s : Sip) : Sip :=
  let a := addU s.a s.b
  let b := xorU (rot13 s.b) a
  let a := rot32 a
  let c := addU s.c s.d
  let d := xorU (rot16 s.d) c
  let a := addU a d
  let d := xorU (rot21 d) a
  let c := addU c b
  let b := xorU (rot17 b) c
  let c := rot32 c
  ⟨a, b, c, d⟩
def sipF (f : Nat → Value) (o : Nat) (s : Sip) : Nat → Value := fun j => if j = o then .int .u64 s.a else if j = o + 1 then .int .u64 s.b else if j = o + 2 then .int .u64 s.c else if j = o + 3 then .int .u64 s.d else f j
theorem sip_seta {w : World} {g : Nat} {t : TypeId} {n o : Nat} {f : Nat → Value} {s : Sip} (h : w.rowIs g t n (sipF f o s)) (x : Int) : (w.setCell ⟨g, o, none⟩ (.int .u64 x)).rowIs g t n (sipF f o ⟨x, s.b, s.c, s.d⟩) :=
  (h.set (o) _).congr fun j _ => by
    unfold sipF
    repeat' split
    all_goals (first | rfl | omega)
theorem sip_setb {w : World} {g : Nat} {t : TypeId} {n o : Nat} {f : Nat → Value} {s : Sip} (h : w.rowIs g t n (sipF f o s)) (x : Int) : (w.setCell ⟨g, o + 1, none⟩ (.int .u64 x)).rowIs g t n (sipF f o ⟨s.a, x, s.c, s.d⟩) :=
  (h.set (o + 1) _).congr fun j _ => by
    unfold sipF
    repeat' split
    all_goals (first | rfl | omega)
theorem sip_setc {w : World} {g : Nat} {t : TypeId} {n o : Nat} {f : Nat → Value} {s : Sip} (h : w.rowIs g t n (sipF f o s)) (x : Int) : (w.setCell ⟨g, o + 2, none⟩ (.int .u64 x)).rowIs g t n (sipF f o ⟨s.a, s.b, x, s.d⟩) :=
  (h.set (o + 2) _).congr fun j _ => by
    unfold sipF
    repeat' split
    all_goals (first | rfl | omega)
theorem sip_setd {w : World} {g : Nat} {t : TypeId} {n o : Nat} {f : Nat → Value} {s : Sip} (h : w.rowIs g t n (sipF f o s)) (x : Int) : (w.setCell ⟨g, o + 3, none⟩ (.int .u64 x)).rowIs g t n (sipF f o ⟨s.a, s.b, s.c, x⟩) :=
  (h.set (o + 3) _).congr fun j _ => by
    unfold sipF
    repeat' split
    all_goals (first | rfl | omega)
end Go.Proofs.Ytdkcjfcjckpjcaa
