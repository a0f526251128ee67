/- Small lemmas for the walks of the laws that take a struct beside lists of rectangles. -/
import Derived.Test.YtdnbocngbmbofaaLawS
namespace Go.Proofs.Ytdnbocngbmbofaa
open Go.RowKit

theorem cell_marked {B : Nat} {w w' : World} {v : Value} {l : List Rc} (ho : OwnRects w B v l) (hg : w.grownBy w' v.ownBlock) {b j : Nat} {x : Value} (hc : w.cell? ⟨b, j, none⟩ = some x) (hb : b < B) : w'.cell? ⟨b, j, none⟩ = some x :=
  hg.cell hc fun e => by
    have := (World.ownsRow.lt (show w.ownsRow B 36 4 v l.length (rowL l) from ho) b e.symm).1
    omega
end Go.Proofs.Ytdnbocngbmbofaa
