/- maglev: the way of a backend, as the hashes give it. shift: plain laws of what moves between two tables. -/
import Derived.Test.YtohapcacckapoaaGreatJ2
import Derived.Test.YtohapcacckapoaaGreatJ15
import Derived.Test.YtohapcacckapoaaGreatJ18
namespace Go.Proofs.YtohapcacckapoaaGreat
def mhash (ka kb : Int) (kind id : Nat) : Nat := (sipHash ka kb ⟨(octB (kind * 65536 + id) 3).toArray⟩).toNat
def wayOf (ka kb : Int) (m : Nat) (id : Int) : WayT := (id, mhash ka kb 1 id.toNat % m, mhash ka kb 2 id.toNat % (m - 1) + 1)
def tableOf (ka kb : Int) (m : Nat) (l : List Int) : List Int := (mrun (l.map (wayOf ka kb m)) m m).1
end Go.Proofs.YtohapcacckapoaaGreat
namespace Go.Proofs.YtohapcacckapoaaGreat
def mvC (p q : List Int) (k : Nat) : Nat := (List.range k).countP (fun i => p.getD i 0 != q.getD i 0)
def muC (h : Int → Bool) (p q : List Int) (k : Nat) : Nat := (List.range k).countP (fun i => p.getD i 0 != q.getD i 0 && !h (p.getD i 0))
end Go.Proofs.YtohapcacckapoaaGreat
