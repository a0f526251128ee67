/- Contracts: the region of a list of rectangles; the area of a region. -/
import Derived.Test.YtldgjocjcbhkmabLawS
namespace Go.Proofs.Ytldgjocjcbhkmab
open Go.RowKit
attribute [local go_sem low] cell_alloc_ite frozen_alloc_ite

def regionOfR (l : List Rc) : List Rc := if validL l then regionL (bitsOf l) else []
theorem regionOfR_len (l : List Rc) : (regionOfR l).length ≤ 2000000 := by
  unfold regionOfR
  split
  · have := region_length (bitsOf l); omega
  · simp
theorem regionOfR_no {l : List Rc} (h : validL l = false) : regionOfR l = [] := by simp [regionOfR, h]
theorem regionOfR_ok {l : List Rc} (h : validL l = true) : regionOfR l = regionL (bitsOf l) := by simp [regionOfR, h]
theorem bel3 {w w1 w2 w3 : World} (h1 : Below w.heap.size w w1) (h2 : Below w1.heap.size w1 w2) (h3 : Below w2.heap.size w2 w3) : Below w.heap.size w w3 :=
  bel_trans (bel_trans h1 h2) h3
def areaRg (l : List Rc) : Int := if isReg l then areaL l else -1
end Go.Proofs.Ytldgjocjcbhkmab
