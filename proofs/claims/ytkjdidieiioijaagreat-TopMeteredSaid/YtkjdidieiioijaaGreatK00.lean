/- A block that holds something is there. -/
import Derived.WalkKit
import Derived.Lib.Hide
set_option linter.all false
universe u
namespace Go
theorem aF {α:Type}{a:Array α}{i:Nat}{x:α}(h:a[i]? = some x):i<a.size:=(Array.getElem?_eq_some_iff.1 h).1
end Go
open Go Go.RowKit
theorem bH:(∀{α:Type}{xs:List α}{i:Nat}(h:i<xs.toArray.size),xs.toArray[i]=xs[i])/\(∀{α:Type}(a:α)(as:List α)(i:Nat)(h:i+1<(a :: as).length),(a :: as)[i+1]=as[i]'(Nat.lt_of_succ_lt_succ h))/\(∀{α:Type}(a:α)(as:List α)(h:0<(a :: as).length),(a :: as)[0]=a):=⟨fun h=>List.getElem_toArray h,fun _ _ _ _=>rfl,fun _ _ _=>rfl⟩
theorem aI:(∀(a:Act) (d:Tmp) (v:Value),a.put (some d) v = { a with tmps:=a.tmps.setIfInBounds d v })/\(∀(a:Act) (v:Value),a.put none v=a)/\(∀{α:Type} (l:List α) (i:Nat) (a:α),l.toArray.setIfInBounds i a=(l.set i a).toArray)/\(∀{α:Type} {x:α} {xs:List α} {a:α},(x :: xs).set 0 a=a :: xs)/\(∀{α:Type} {x:α} {xs:List α} {i:Nat} {a:α},(x :: xs).set (i+1) a=x :: xs.set i a):=⟨fun _ _ _=>rfl,fun _ _=>rfl,fun l i a=>List.setIfInBounds_toArray l i a,rfl,rfl⟩
theorem aG {α:Sort u}(a:α):∃x,a=x:=⟨_,rfl⟩
def ai:=@Lib.hid
def ax:=@Calls.mono
def bM:=@Nat.lt_of_lt_of_le
abbrev dI (v:Value)(w:World)(e:Ending)(w':World):Prop:=e=.returned v/\Below w.heap.size w w'
