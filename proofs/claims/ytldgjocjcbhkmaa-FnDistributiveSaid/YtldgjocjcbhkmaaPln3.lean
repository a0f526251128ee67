/- Plain law on regions: the union of four. -/
import Derived.Test.YtldgjocjcbhkmaaPln
import Derived.Test.YtldgjocjcbhkmaaRegN
namespace Go.Proofs.Ytldgjocjcbhkmaa
open Go.RowKit

theorem all_four {a b c d : List Rc} (ha : isReg a = true) (hb : isReg b = true) (hc : isReg c = true) (hd : isReg d = true) : allR [a, b, c, d] = opR 14 (opR 14 a b) (opR 14 c d) := by
  rw [all_yes (by simp) (by simp [ha, hb, hc, hd])]
  refine reg_ext (isReg_region _) (op_reg 14 (op_reg 14 ha hb) (op_reg 14 hc hd)) fun i j hi hj => ?_
  rw [bits_region _ i j hi hj, op_bits 14 (op_reg 14 ha hb) (op_reg 14 hc hd) i j hi hj, opG, op_bits 14 ha hb i j hi hj, op_bits 14 hc hd i j hi hj, opG, opG, opB_or, opB_or, opB_or]
  simp [bitsOf, Bool.or_assoc]
theorem ss_four {w : World} {a b c d : List Rc} {xa xb xc xd : Option Addr} {ca cb cc cd : Nat} (ha : RectsAt w.heap.size w xa a) (hb : RectsAt w.heap.size w xb b) (hc : RectsAt w.heap.size w xc c) (hd : RectsAt w.heap.size w xd d)
    (la : a.length ≤ 2000000) (lb : b.length ≤ 2000000) (lc : c.length ≤ 2000000) (ld : d.length ≤ 2000000) :
    SSAt (w.alloc (.cells #[.slice xa a.length ca, .slice xb b.length cb, .slice xc c.length cc, .slice xd d.length cd] 24)).heap.size
      (w.alloc (.cells #[.slice xa a.length ca, .slice xb b.length cb, .slice xc c.length cc, .slice xd d.length cd] 24)) (some ⟨w.heap.size, 0, none⟩) [a, b, c, d] := by
  have hB : Below w.heap.size w (w.alloc (.cells #[.slice xa a.length ca, .slice xb b.length cb, .slice xc c.length cc, .slice xd d.length cd] 24)) := bel_alloc (Below.refl _ _) _
  have hz : w.heap.size < (w.alloc (.cells #[.slice xa a.length ca, .slice xb b.length cb, .slice xc c.length cc, .slice xd d.length cd] 24)).heap.size := by simp
  intro i l hi
  have h4 : i < 4 := (List.getElem?_eq_some_iff.1 hi).1
  have : i = 0 ∨ i = 1 ∨ i = 2 ∨ i = 3 := by omega
  rcases this with rfl | rfl | rfl | rfl <;> simp only [List.getElem?_cons_zero, List.getElem?_cons_succ, Option.some.injEq] at hi <;> subst hi
  · exact ⟨_, xa, ca, rfl, hz, by simp [go_sem], la, ha.kept hB⟩
  · exact ⟨_, xb, cb, rfl, hz, by simp [go_sem], lb, hb.kept hB⟩
  · exact ⟨_, xc, cc, rfl, hz, by simp [go_sem], lc, hc.kept hB⟩
  · exact ⟨_, xd, cd, rfl, hz, by simp [go_sem], ld, hd.kept hB⟩
end Go.Proofs.Ytldgjocjcbhkmaa
