/- Contract: the drawn region of the laws on edges. -/
import Derived.Test.YtldgjocjcbhkmabDrw4
namespace Go.Proofs.Ytldgjocjcbhkmab
open Go.RowKit
attribute [local go_sem low] cell_alloc_ite frozen_alloc_ite

/-- A drawn region. -/
def RetDE (w : World) (e : Ending) (w' : World) : Prop := ∃ (la : List Rc) (a : Option Addr) (ca : Nat), e = .returned (.slice a la.length ca) ∧ RectsAt w'.heap.size w' a la ∧ la.length ≤ 2000000 ∧ Below w.heap.size w w'
set_option maxRecDepth 100000 in
set_option maxHeartbeats 1600000 in
theorem spec_DrawBoundaryEdges (n cap : Nat) (a : Option Addr) (w : World) (h : InBytes w.heap.size w a n) (hn : n ≤ 5000) : Calls Try.prog 11 #[.slice a n cap] w (RetDE w) := by
  go_enter Try.func11, Try.ntmps11
  go_wp2_with fail
  go_at_call 27
  refine (spec_l01From n cap a w h hn).mono ?_
  rintro e w1 ⟨g, rfl, hs, hb1⟩
  have hlo := hs.lo
  have hlt := hs.lt
  go_wp2_with fail
  go_at_call 29
  refine (spec_l03DrawRegion w.heap.size g w1 hs).mono ?_
  rintro e w2 ⟨l1, a1, c1, rfl, ho1, hl1, hok1, hd2⟩
  have HK1 := hide hok1
  clear hok1
  have hsz2 := hd2.2.size
  go_wp2_with fail
  go_at_call 28
  refine (spoil_any (n := 12) (by omega) hd2.1 ho1 (by omega) (by omega) hl1 HK1.out).mono ?_
  rintro e w3 ⟨m1, b1, d1, rfl, hp1, hf1, hm1, hd3⟩
  have hsz3 := hd3.2.size
  clear ho1 hl1 HK1
  go_wp2_with fail
  go_ret
  have hd := hd2.trans hd3
  exact ⟨m1, b1, d1, rfl, rects_at hp1, by omega, hd.below hb1 hb1.size⟩
end Go.Proofs.Ytldgjocjcbhkmab
