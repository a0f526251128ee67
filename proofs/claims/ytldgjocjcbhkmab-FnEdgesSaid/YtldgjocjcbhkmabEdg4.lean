/- Contracts: the order of edges, and the boundary (the program). -/
import Derived.Test.YtldgjocjcbhkmabEdg3
import Derived.Test.YtldgjocjcbhkmabEdgLay
import Derived.StillTailTactics
namespace Go.Proofs.Ytldgjocjcbhkmab
open Go.RowKit
attribute [local go_sem low] cell_alloc_ite frozen_alloc_ite

def cmpV (x y : Int) : Int := if x < y then -1 else if y < x then 1 else 0
def orF (f : Nat → Int) : Nat → Nat → Int
  | 0, _ => 0
  | n + 1, i => if f i ≠ 0 then f i else orF f n (i + 1)
def cmpF (a b : Rc) (j : Nat) : Int := if j = 0 then cmpV a.y0 b.y0 else if j = 1 then cmpV a.x0 b.x0 else if j = 2 then cmpV a.y1 b.y1 else cmpV a.x1 b.x1
def edgeCmp (a b : Rc) : Int := orF (cmpF a b) 4 0
theorem edgeCmp_lt (a b : Rc) : edgeCmp a b < 0 ↔ a.y0 < b.y0 ∨ (a.y0 = b.y0 ∧ (a.x0 < b.x0 ∨ (a.x0 = b.x0 ∧ (a.y1 < b.y1 ∨ (a.y1 = b.y1 ∧ a.x1 < b.x1))))) := by
  have h : edgeCmp a b = if cmpV a.y0 b.y0 ≠ 0 then cmpV a.y0 b.y0 else if cmpV a.x0 b.x0 ≠ 0 then cmpV a.x0 b.x0 else if cmpV a.y1 b.y1 ≠ 0 then cmpV a.y1 b.y1 else if cmpV a.x1 b.x1 ≠ 0 then cmpV a.x1 b.x1 else 0 := rfl
  rw [h]
  have key : ∀ x y : Int, (cmpV x y = -1 ∧ x < y) ∨ (cmpV x y = 1 ∧ y < x) ∨ (cmpV x y = 0 ∧ x = y) := by
    intro x y
    unfold cmpV
    split
    · exact .inl ⟨rfl, by assumption⟩
    · split
      · exact .inr (.inl ⟨rfl, by assumption⟩)
      · exact .inr (.inr ⟨rfl, by omega⟩)
  rcases key a.y0 b.y0 with ⟨e0, h0⟩ | ⟨e0, h0⟩ | ⟨e0, h0⟩ <;> rw [e0]
  · simp; omega
  · simp; omega
  · rcases key a.x0 b.x0 with ⟨e1, h1⟩ | ⟨e1, h1⟩ | ⟨e1, h1⟩ <;> rw [e1]
    · simp; omega
    · simp; omega
    · rcases key a.y1 b.y1 with ⟨e2, h2⟩ | ⟨e2, h2⟩ | ⟨e2, h2⟩ <;> rw [e2]
      · simp; omega
      · simp; omega
      · rcases key a.x1 b.x1 with ⟨e3, h3⟩ | ⟨e3, h3⟩ | ⟨e3, h3⟩ <;> rw [e3] <;> simp <;> omega
theorem edge_swo : Go.Sort.SWO (ltOf edgeCmp) where
  irrefl x := by
    unfold ltOf
    rw [decide_eq_false_iff_not, edgeCmp_lt]
    omega
  trans x y z h1 h2 := by
    unfold ltOf at *
    rw [decide_eq_true_eq, edgeCmp_lt] at *
    omega
  ntrans x y z h1 h2 := by
    unfold ltOf at *
    rw [decide_eq_false_iff_not, edgeCmp_lt] at *
    omega
set_option maxRecDepth 100000 in
set_option maxHeartbeats 400000 in
theorem cmp_isNaN (x : Int) (w : World) : Calls Try.prog 79 #[.int .i64 x] w fun e w' => e = .returned (.bool false) ∧ w = w' := by
  go_enter Try.func79, Try.ntmps79
  go_wp2
  go_ret
  exact ⟨by simp, rfl⟩
set_option maxRecDepth 100000 in
set_option maxHeartbeats 1600000 in
theorem cmp_Compare (x y : Int) (w : World) : Calls Try.prog 68 #[.int .i64 x, .int .i64 y] w fun e w' => e = .returned (.int .i64 (cmpV x y)) ∧ w = w' := by
  rcases Int.lt_trichotomy x y with h | h | h
  · have hr : cmpV x y = -1 := by simp [cmpV, h]
    rw [hr]
    clear hr
    go_enter Try.func68, Try.ntmps68
    go_wp2_with (go_at_call 79; refine (cmp_isNaN _ _).mono ?_; rintro e w1 ⟨rfl, rfl⟩)
    go_ret
    exact ⟨rfl, rfl⟩
  · subst h
    have hr : cmpV x x = 0 := by simp [cmpV]
    rw [hr]
    clear hr
    go_enter Try.func68, Try.ntmps68
    go_wp2_with (go_at_call 79; refine (cmp_isNaN _ _).mono ?_; rintro e w1 ⟨rfl, rfl⟩)
    go_ret
    exact ⟨rfl, rfl⟩
  · have hr : cmpV x y = 1 := by unfold cmpV; rw [if_neg (by omega), if_pos h]
    rw [hr]
    have hn : ¬ x < y := by omega
    clear hr
    go_enter Try.func68, Try.ntmps68
    go_wp2_with (go_at_call 79; refine (cmp_isNaN _ _).mono ?_; rintro e w1 ⟨rfl, rfl⟩)
    go_ret
    exact ⟨rfl, rfl⟩
set_option maxRecDepth 100000 in
set_option maxHeartbeats 1600000 in
theorem cmp_Or (f : Nat → Int) (b : Nat) (w : World) (h : ∀ j, j < 4 → w.cell? ⟨b, j, none⟩ = some (.int .i64 (f j))) : Calls Try.prog 67 #[.slice (some ⟨b, 0, none⟩) 4 4] w fun e w' => e = .returned (.int .i64 (orF f 4 0)) ∧ w = w' := by
  have HC := hide h
  clear h
  go_enter Try.func67, Try.ntmps67
  go_wp2_with fail
  go_loopw [8] (fun s wr => ∃ i : Nat, i ≤ 4 ∧ s = .int .i64 i ∧ Hid (orF f 4 0 = orF f (4 - i) i) ∧ w = wr) (fun s _ => 4 - (intOf s).toNat)
  case atStart => exact ⟨0, by omega, rfl, rfl, rfl⟩
  case round =>
    obtain ⟨i, hi, rfl, HO, rfl⟩ := hrel
    by_cases hy : (i : Int) < 4
    · have c := HC.out i (by omega)
      have hs : orF f (4 - i) i = if f i ≠ 0 then f i else orF f (4 - (i + 1)) (i + 1) := by
        rw [show 4 - i = (4 - (i + 1)) + 1 from by omega]
        rfl
      have HS := hide hs
      clear hs
      obtain ⟨z, hz⟩ : ∃ z, z = f i := ⟨_, rfl⟩
      rw [← hz] at c
      have HZ := hide hz
      clear hz
      by_cases h0 : z = 0
      · subst h0
        go_wp2_with fail
        go_roundw
        case rel => exact ⟨i + 1, by omega, by go_num, by rw [Hid, HO.out, HS.out, ← HZ.out]; simp, by first | trivial | rfl⟩
        case measure => simp [intOf]; omega
      · go_wp2_with fail
        go_ret
        rw [HO.out, HS.out, ← HZ.out]
        exact ⟨by simp [h0], rfl⟩
    · obtain rfl : i = 4 := by omega
      go_wp2_with fail
      go_ret
      rw [HO.out]
      exact ⟨rfl, rfl⟩
set_option maxRecDepth 100000 in
set_option maxHeartbeats 1600000 in
theorem impl_compareEdges (a b : Rc) (W : World) : Calls Try.prog 53 #[.agg #[.int .i64 a.x0, .int .i64 a.y0, .int .i64 a.x1, .int .i64 a.y1], .agg #[.int .i64 b.x0, .int .i64 b.y0, .int .i64 b.x1, .int .i64 b.y1]] W
    fun e w' => e = .returned (.int .i64 (edgeCmp a b)) ∧ ∃ q os', w' = Go.Sort.grow (W.drewN q) os' := by
  go_enter Try.func53, Try.ntmps53
  go_wp2_with fail
  have ca0 : ((W.alloc (.cells #[.int .i64 a.x0, .int .i64 a.y0, .int .i64 a.x1, .int .i64 a.y1] 38)).alloc (.cells #[.int .i64 b.x0, .int .i64 b.y0, .int .i64 b.x1, .int .i64 b.y1] 38)).cell? ⟨W.heap.size, 0, none⟩ = some (.int .i64 a.x0) := by simp [go_sem]
  have ca1 : ((W.alloc (.cells #[.int .i64 a.x0, .int .i64 a.y0, .int .i64 a.x1, .int .i64 a.y1] 38)).alloc (.cells #[.int .i64 b.x0, .int .i64 b.y0, .int .i64 b.x1, .int .i64 b.y1] 38)).cell? ⟨W.heap.size, 1, none⟩ = some (.int .i64 a.y0) := by simp [go_sem]
  have ca2 : ((W.alloc (.cells #[.int .i64 a.x0, .int .i64 a.y0, .int .i64 a.x1, .int .i64 a.y1] 38)).alloc (.cells #[.int .i64 b.x0, .int .i64 b.y0, .int .i64 b.x1, .int .i64 b.y1] 38)).cell? ⟨W.heap.size, 2, none⟩ = some (.int .i64 a.x1) := by simp [go_sem]
  have ca3 : ((W.alloc (.cells #[.int .i64 a.x0, .int .i64 a.y0, .int .i64 a.x1, .int .i64 a.y1] 38)).alloc (.cells #[.int .i64 b.x0, .int .i64 b.y0, .int .i64 b.x1, .int .i64 b.y1] 38)).cell? ⟨W.heap.size, 3, none⟩ = some (.int .i64 a.y1) := by simp [go_sem]
  have cb0 : ((W.alloc (.cells #[.int .i64 a.x0, .int .i64 a.y0, .int .i64 a.x1, .int .i64 a.y1] 38)).alloc (.cells #[.int .i64 b.x0, .int .i64 b.y0, .int .i64 b.x1, .int .i64 b.y1] 38)).cell? ⟨W.heap.size + 1, 0, none⟩ = some (.int .i64 b.x0) := by simp [go_sem]
  have cb1 : ((W.alloc (.cells #[.int .i64 a.x0, .int .i64 a.y0, .int .i64 a.x1, .int .i64 a.y1] 38)).alloc (.cells #[.int .i64 b.x0, .int .i64 b.y0, .int .i64 b.x1, .int .i64 b.y1] 38)).cell? ⟨W.heap.size + 1, 1, none⟩ = some (.int .i64 b.y0) := by simp [go_sem]
  have cb2 : ((W.alloc (.cells #[.int .i64 a.x0, .int .i64 a.y0, .int .i64 a.x1, .int .i64 a.y1] 38)).alloc (.cells #[.int .i64 b.x0, .int .i64 b.y0, .int .i64 b.x1, .int .i64 b.y1] 38)).cell? ⟨W.heap.size + 1, 2, none⟩ = some (.int .i64 b.x1) := by simp [go_sem]
  have cb3 : ((W.alloc (.cells #[.int .i64 a.x0, .int .i64 a.y0, .int .i64 a.x1, .int .i64 a.y1] 38)).alloc (.cells #[.int .i64 b.x0, .int .i64 b.y0, .int .i64 b.x1, .int .i64 b.y1] 38)).cell? ⟨W.heap.size + 1, 3, none⟩ = some (.int .i64 b.y1) := by simp [go_sem]
  have hgr : Hid (((W.alloc (.cells #[.int .i64 a.x0, .int .i64 a.y0, .int .i64 a.x1, .int .i64 a.y1] 38)).alloc (.cells #[.int .i64 b.x0, .int .i64 b.y0, .int .i64 b.x1, .int .i64 b.y1] 38)) = Go.Sort.grow W #[(.cells #[.int .i64 a.x0, .int .i64 a.y0, .int .i64 a.x1, .int .i64 a.y1] 38), (.cells #[.int .i64 b.x0, .int .i64 b.y0, .int .i64 b.x1, .int .i64 b.y1] 38)]) := by rw [Hid, Go.Sort.alloc_eq_grow, Go.Sort.alloc_eq_grow, Go.Sort.grow_grow]; rfl
  generalize ((W.alloc (.cells #[.int .i64 a.x0, .int .i64 a.y0, .int .i64 a.x1, .int .i64 a.y1] 38)).alloc (.cells #[.int .i64 b.x0, .int .i64 b.y0, .int .i64 b.x1, .int .i64 b.y1] 38)) = w2 at *
  go_still_tail 20, (by kernel_rfl)
  still_call ((cmp_Compare _ _ _).mono fun _ _ h => ⟨h.1, h.2.symm⟩)
  repeat still_step
  still_call ((cmp_Compare _ _ _).mono fun _ _ h => ⟨h.1, h.2.symm⟩)
  repeat still_step
  still_call ((cmp_Compare _ _ _).mono fun _ _ h => ⟨h.1, h.2.symm⟩)
  repeat still_step
  still_call ((cmp_Compare _ _ _).mono fun _ _ h => ⟨h.1, h.2.symm⟩)
  repeat still_step
  try refine wpStill_nil ?_
  change wpList _ _ _ _ _ (World.drew _)
  go_wp2_with fail
  go_at_call 67
  refine (cmp_Or (cmpF a b) _ _ (fun j hj => ?_)).mono ?_
  · have : j = 0 ∨ j = 1 ∨ j = 2 ∨ j = 3 := by omega
    rcases this with rfl | rfl | rfl | rfl <;> simp [go_sem, cmpF]
  · rintro e w1 ⟨rfl, rfl⟩
    go_wp2_with fail
    go_ret
    refine ⟨rfl, 1, #[(.cells #[.int .i64 a.x0, .int .i64 a.y0, .int .i64 a.x1, .int .i64 a.y1] 38), (.cells #[.int .i64 b.x0, .int .i64 b.y0, .int .i64 b.x1, .int .i64 b.y1] 38)] ++ #[(.cells #[.int .i64 (cmpV a.y0 b.y0), .int .i64 (cmpV a.x0 b.x0), .int .i64 (cmpV a.y1 b.y1), .int .i64 (cmpV a.x1 b.x1)] 3)], ?_⟩
    rw [hgr.out]
    exact (congrArg World.drew ((Go.Sort.alloc_eq_grow _ _).trans (Go.Sort.grow_grow W _ _))).trans (Go.Sort.drew_grow W _)
end Go.Proofs.Ytldgjocjcbhkmab
