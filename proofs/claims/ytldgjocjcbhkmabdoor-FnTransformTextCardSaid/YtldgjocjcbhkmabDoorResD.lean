/- The cells of a struct that a function returns, kept over calls. -/
import Derived.Test.YtldgjocjcbhkmabDoorGeo
namespace Go.Proofs.YtldgjocjcbhkmabDoor
open Go.RowKit
attribute [local go_sem low] cell_alloc_ite frozen_alloc_ite

/-- What the walk keeps: the result's own cells. -/
structure Res3 (b : Nat) (w w' : World) : Prop where
  c0 : w'.cell? ⟨b, 0, none⟩ = some (.int .i64 0)
  c1 : w'.cell? ⟨b, 1, none⟩ = some (.int .i64 0)
  c2 : w'.cell? ⟨b, 2, none⟩ = some (.int .i64 0)
  f0 : w'.frozen? ⟨b, 0, none⟩ = false
  f1 : w'.frozen? ⟨b, 1, none⟩ = false
  f2 : w'.frozen? ⟨b, 2, none⟩ = false
  bel : Below b w w'
theorem Res3.kept {b : Nat} {w w1 w2 : World} (h : Res3 b w w1) (hb : Below w1.heap.size w1 w2) : Res3 b w w2 := by
  have hlt := World.block_lt_of_cell? _ _ h.c0
  have hf : ∀ j, w2.frozen? ⟨b, j, none⟩ = w1.frozen? ⟨b, j, none⟩ := fun j => hb.frozen (p := ⟨b, j, none⟩) hlt
  exact ⟨keep_cell hb h.c0, keep_cell hb h.c1, keep_cell hb h.c2, (hf 0).trans h.f0, (hf 1).trans h.f1, (hf 2).trans h.f2, h.bel.trans (hb.mono (Nat.le_of_lt hlt))⟩
theorem res3_start (w : World) (t : TypeId) : Res3 w.heap.size w (w.alloc (.cells #[.int .i64 0, .int .i64 0, .int .i64 0] t)) :=
  ⟨by simp [go_sem], by simp [go_sem], by simp [go_sem], by simp [go_sem], by simp [go_sem], by simp [go_sem], bel_alloc (Below.refl _ _) _⟩
end Go.Proofs.YtldgjocjcbhkmabDoor
