/- Contract: the boundary edges of a region (the program). -/
import Derived.Test.YtldgjocjcbhkmabEdg9
namespace Go.Proofs.Ytldgjocjcbhkmab
open Go.RowKit
attribute [local go_sem low] cell_alloc_ite frozen_alloc_ite

set_option maxRecDepth 100000 in
set_option maxHeartbeats 1600000 in
theorem impl_BoundaryEdges (l : List Rc) (a : Option Addr) (cap : Nat) (w : World) (h : RectsAt w.heap.size w a l) (hn : l.length ≤ 2000000) (hv : isReg l = true) : Calls Try.prog 13 #[.slice a l.length cap] w
    fun e w' => ∃ (L : List Rc) (a' : Option Addr) (c' : Nat), Hid (L = bndL (bitsOf l)) ∧ e = .returned (.slice a' L.length c') ∧ RectsAt w'.heap.size w' a' L ∧ Below w.heap.size w w' := by
  have HV := hide hv
  have HK := hide (isReg_iff.1 hv)
  clear hv
  go_enter Try.func13, Try.ntmps13
  go_wp2_with fail
  go_at_call 22
  refine (impl_IsRegion l _ _ _ h hn).mono ?_
  rintro e w1 ⟨he, hb1⟩
  rw [HV.out] at he
  subst he
  go_wp2_with fail
  go_at_call 23
  refine (impl_cellsOf l _ _ _ (h.kept hb1) (by have := HK.out.1; omega)).mono ?_
  rintro e w2 ⟨b2, rfl, _, hrow2, hb2⟩
  go_wp2_with fail
  go_at_call 24
  refine (impl_boundary _ _ w2 hrow2).mono ?_
  rintro e w3 ⟨a3, c3, he3, ho3, hb3⟩
  obtain ⟨L, HL⟩ : ∃ L, Hid (L = bndL (bitsOf l)) := ⟨_, rfl⟩
  rw [← HL.out] at he3 ho3
  subst he3
  have hat := edges_at ho3
  clear ho3
  go_wp2_with fail
  go_ret
  exact ⟨L, a3, c3, HL, rfl, hat, bel_trans (bel_trans hb1 hb2) hb3⟩
end Go.Proofs.Ytldgjocjcbhkmab
