/- A law's argument that is a slice of bytes, opened to its cells. No condition. -/
import Derived.Test.YtldgjocjcbhkmaaDrw
namespace Go.Proofs.Ytldgjocjcbhkmaa
open Go.ChangeShapes Go.WideShapes Go.Deep Go.RowKit

theorem bounds_u8 {n : Int} (h : (Lit.int .u8 n).wf = true) : 0 ≤ n ∧ n < 256 := by
  have hmin : IntKind.u8.min = 0 := rfl
  have hmax : IntKind.u8.max = 255 := rfl
  simp only [Lit.wf, Bool.and_eq_true, decide_eq_true_eq] at h
  omega
section
variable {H : Type} {enc : TypeId × Value → H} {P : Program} {w : World} {base : Nat} {spare : Nat → Bool} {held : Bool}
theorem open_bytes {t e : TypeId} {v : Value} {d : DataW H} {p : List MemPlace} (ht : P.underlying t = some (.slice e)) (hC : P.cellsOf e = 1) (he : P.underlying e = some (.int .u8))
    (hv : ∃ a n c, v = .slice a n c) (h : DataW.Trod enc P w base spare held t v d p) :
    ∃ (a : Option Addr) (n cap : Nat), v = .slice a n cap ∧ n ≤ maxLen ∧ InBytes w.heap.size w a n := by
  obtain ⟨fuel, hf⟩ := h
  obtain ⟨a0, n0, c0, rfl⟩ := hv
  have hcells : (Value.slice a0 n0 c0).cells.toList = [.slice a0 n0 c0] := rfl
  rw [hcells] at hf
  rcases open_slice1 ht hC hf with ⟨h0, _⟩ | ⟨a, len, cap, m, n, V, D, Pl, hcs, _, hl, hm, hmm, _, hi⟩
  · simp only [List.cons.injEq, and_true] at h0
    exact ⟨none, 0, 0, h0, by simp, fun i hi => by omega⟩
  · simp only [List.cons.injEq, and_true] at hcs
    have hle : len ≤ m := by rw [hmm]; split <;> omega
    refine ⟨some a, len, cap, hcs, by omega, fun i hil => ?_⟩
    obtain ⟨hc, htr⟩ := hi i (by omega)
    obtain ⟨z, hz, _, hw⟩ := DataW.trod_int he htr
    simp only [List.cons.injEq, and_true] at hz
    obtain ⟨z0, z1⟩ := bounds_u8 hw
    obtain ⟨g, off, spot⟩ := a
    have hspot : spot = none := by
      obtain ⟨hc', _⟩ := hi 0 (by omega)
      simpa [Addr.add] using World.cell?_spot hc'
    subst hspot
    rw [Addr.add_mid, hz] at hc
    exact ⟨g, off, z, rfl, World.block_lt_of_cell? _ _ hc, z0, z1, hc⟩
end
/-! ### results of calls, their lists behind a name -/
theorem retS_var {w : World} {L : List Rc} {e : Ending} {w' : World} (h : RetS w L e w') :
    ∃ u : List Rc, Hid (u = L) ∧ ∃ a cap, e = .returned (.slice a u.length cap) ∧ RectsAt w'.heap.size w' a u ∧ Below w.heap.size w w' := by
  obtain ⟨a, cap, he, ho, hb⟩ := h
  exact ⟨L, rfl, a, cap, he, rects_at ho, hb⟩
theorem retSB_var {w : World} {L : List Rc} {b : Bool} {e : Ending} {w' : World} (h : RetSB w L b e w') :
    ∃ u : List Rc, Hid (u = L) ∧ ∃ a cap, e = .returned (.tuple #[.slice a u.length cap, .bool b]) ∧ RectsAt w'.heap.size w' a u ∧ Below w.heap.size w w' := by
  obtain ⟨a, cap, he, ho, hb⟩ := h
  exact ⟨L, rfl, a, cap, he, rects_at ho, hb⟩
end Go.Proofs.Ytldgjocjcbhkmaa
