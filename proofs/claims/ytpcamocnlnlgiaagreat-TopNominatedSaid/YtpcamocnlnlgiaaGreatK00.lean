/- A block that holds something is there. -/
import Derived.WalkKit
namespace Go
theorem zqo {α : Type} {a : Array α} {i : Nat} {x : α} (h : a[i]? = some x) : i < a.size := (Array.getElem?_eq_some_iff.1 h).1
end Go
