/- More words for memory. -/
import Derived.Test.YtdcgminjamofmaaDoorBase
import Derived.Deep.AppendLies
namespace Go.Proofs.YtdcgminjamofmaaDoor
open Go.RowKit
/-- What is owned stays owned behind a call that leaves all memory that was there alone. -/
theorem own_keep {w w' : World} {base : Nat} {e : TypeId} {size : Nat} {v : Value} {n B : Nat} {xs : List Value} (h : w.ownsRow base e size v n xs) (hB : w.heap.size ≤ B) (hb : Below B w w') : w'.ownsRow base e size v n xs := by
  refine ⟨h.1, ?_⟩
  rcases h.2 with hn | ⟨g, cap, cur, rfl, hbb, hgg, rest⟩
  · exact .inl hn
  · exact .inr ⟨g, cap, cur, rfl, hbb, (hb.block g (by have := (Array.getElem?_eq_some_iff.1 hgg).1; omega)).trans hgg, rest⟩
end Go.Proofs.YtdcgminjamofmaaDoor
