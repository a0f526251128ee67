/- A law's argument that is a slice of points, opened to its cells. No condition. -/
import Derived.Test.YtldgjocjcbhkmaaFrameR
namespace Go.Proofs.Ytldgjocjcbhkmaa
open Go.ChangeShapes Go.WideShapes Go.Deep Go.RowKit

/-- The list of points lies behind the slice's address a, wherever, below block B. -/
def InPts (B : Nat) (w : World) (a : Option Addr) (l : List (Int × Int)) : Prop := ∀ i r, l[i]? = some r → ∃ g off, a = some ⟨g, off, none⟩ ∧ g < B ∧
  w.cell? ⟨g, off + i * 2, none⟩ = some (.int .i64 r.1) ∧ w.cell? ⟨g, off + i * 2 + 1, none⟩ = some (.int .i64 r.2)
theorem InPts.below {B C : Nat} {w w' : World} {a : Option Addr} {l : List (Int × Int)} (h : InPts B w a l) (hb : Below C w w') (hc : B ≤ C) : InPts B w' a l := fun i r hi => by
  obtain ⟨g, off, ha, hg, c0, c1⟩ := h i r hi
  exact ⟨g, off, ha, hg, (hb.cell (p := ⟨g, _, none⟩) (Nat.lt_of_lt_of_le hg hc)).trans c0, (hb.cell (p := ⟨g, _, none⟩) (Nat.lt_of_lt_of_le hg hc)).trans c1⟩
theorem InPts.mono {B C : Nat} {w : World} {a : Option Addr} {l : List (Int × Int)} (h : InPts B w a l) (hc : B ≤ C) : InPts C w a l := fun i r hi => by
  obtain ⟨g, off, ha, hg, c⟩ := h i r hi
  exact ⟨g, off, ha, Nat.lt_of_lt_of_le hg hc, c⟩
section
variable {H : Type} {enc : TypeId × Value → H} {P : Program} {w : World} {base : Nat} {spare : Nat → Bool} {held : Bool}
theorem open_points {t e ti : TypeId} {f0 f1 : Field} {v : Value} {d : DataW H} {p : List MemPlace} (ht : P.underlying t = some (.slice e)) (he : P.underlying e = some (.struct #[f0, f1]))
    (hone : oneCellFields P #[f0, f1] = true) (hC : P.cellsOf e = 2) (hti : P.underlying ti = some (.int .i64)) (e0 : f0.type = ti) (e1 : f1.type = ti)
    (hv : ∃ a n c, v = .slice a n c) (h : DataW.Trod enc P w base spare held t v d p) :
    ∃ (a : Option Addr) (l : List (Int × Int)) (cap : Nat), v = .slice a l.length cap ∧ l.length ≤ maxLen ∧ InPts w.heap.size w a l := by
  obtain ⟨fuel, hf⟩ := h
  obtain ⟨a0, n0, c0, rfl⟩ := hv
  have hcells : (Value.slice a0 n0 c0).cells.toList = [.slice a0 n0 c0] := rfl
  rw [hcells] at hf
  rcases open_slice_fields ht he hone hC hf with ⟨h0, _⟩ | ⟨a, len, cap, m, D, Pl, hcs, _, hl, hm, hmm, _, hi⟩
  · simp only [List.cons.injEq, and_true] at h0
    refine ⟨none, [], 0, h0, by simp, fun i r hir => by simp at hir⟩
  · simp only [List.cons.injEq, and_true] at hcs
    have hle : len ≤ m := by rw [hmm]; split <;> omega
    refine ⟨some a, (List.range len).map fun i => (cellN w a (i * 2), cellN w a (i * 2 + 1)), cap, by simpa using hcs, by simp; omega, fun i r hir => ?_⟩
    have hil : i < len := by
      have := (List.getElem?_eq_some_iff.1 hir).1
      simpa using this
    rw [List.getElem?_map, List.getElem?_range hil] at hir
    simp only [Option.map_some, Option.some.injEq] at hir
    obtain ⟨ys, n, _, _, _, hall⟩ := hi i (by omega)
    have hz : ∀ j f, (#[f0, f1] : Array Field)[j]? = some f → f.type = ti → w.cell? (a.add (i * 2 + j)) = some (.int .i64 (cellN w a (i * 2 + j))) := by
      intro j f hj hft
      obtain ⟨v', y, hc, _, hy⟩ := hall j f hj
      rw [hft] at hy
      obtain ⟨z, hz, _, _⟩ := DataW.trod_int hti hy
      simp only [List.cons.injEq, and_true] at hz
      subst hz
      have hc' : w.cell? (a.add (i * 2 + j)) = some (.int .i64 z) := hc
      rw [hc', cellN, hc']
      rfl
    have h0 := hz 0 f0 rfl e0
    have h1 := hz 1 f1 rfl e1
    obtain ⟨b, off, spot⟩ := a
    have hspot : spot = none := by
      obtain ⟨ys', n', _, _, _, hall'⟩ := hi 0 (by omega)
      obtain ⟨v', y, hc, _, _⟩ := hall' 0 f0 rfl
      simpa [Addr.add] using World.cell?_spot hc
    subst hspot
    rw [Addr.add_mid] at h0 h1
    subst hir
    exact ⟨b, off, rfl, World.block_lt_of_cell? _ _ h0, h0, h1⟩
end
end Go.Proofs.Ytldgjocjcbhkmaa
