/- part and its reference: Spread. part and its reference: Instance. Tuples and bools that a law is given. -/
import Derived.Test.YteklkljndchjiaaGreatJ23
import Derived.Test.YteklkljndchjiaaGreatJ9
import Derived.Test.YteklkljndchjiaaGreatJ3
namespace Go.Proofs.YteklkljndchjiaaGreat
open Go Go.RowKit Go.Deep
theorem Ra (a b:Int) (t:Tup) (n:Int) (h:mayB n=true):0≤partI a b t n∧partI a b t n<n:=by
 have hn:1≤n∧n≤16:=by simpa [mayB] using h
 unfold partI
 rw [if_pos h]
 obtain ⟨x,hx,hlt⟩:=Hv b a ⟨(BW t).toArray⟩
 rw [hx]
 obtain ⟨m,rfl⟩:=Int.eq_ofNat_of_zero_le (show 0≤n by omega)
 unfold D3
 rw [if_neg (by omega)]
 have:=I7 x m hlt (by omega)
 omega
end Go.Proofs.YteklkljndchjiaaGreat
namespace Go.Proofs.YteklkljndchjiaaGreat
open Go Go.RowKit Go.Deep Go.ChangeShapes Go.WideShapes
def tupWf (t:Tup):Prop:=t.hi<18446744073709551616∧t.lo<18446744073709551616∧t.hi'<18446744073709551616∧t.lo'<18446744073709551616
end Go.Proofs.YteklkljndchjiaaGreat
