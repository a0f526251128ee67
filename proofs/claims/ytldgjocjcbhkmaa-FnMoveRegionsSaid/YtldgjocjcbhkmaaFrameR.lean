/- A law's argument that is a slice of rectangles, opened to its cells. No condition. -/
import Derived.Test.YtldgjocjcbhkmaaLawR
import Derived.Deep.Slices
import Derived.Deep.Fields
import Derived.ChangeSame
namespace Go.Proofs.Ytldgjocjcbhkmaa
open Go.ChangeShapes Go.WideShapes Go.Deep Go.RowKit

section
variable {H : Type} {enc : TypeId × Value → H} {P : Program} {w : World} {base : Nat} {spare : Nat → Bool} {held : Bool}
theorem open_slice_fields {t e : TypeId} {fs : Array Field} {fuel : Nat} {cs : List Value} {x : DataW H × List MemPlace} (ht : P.underlying t = some (.slice e)) (he : P.underlying e = some (.struct fs))
    (hone : oneCellFields P fs = true) (hC : P.cellsOf e = fs.size) (h : DataW.trod enc P w base spare held fuel t cs = some x) :
    (cs = [.slice none 0 0] ∧ x = (.nil, [])) ∨
    ∃ (a : Addr) (len cap m : Nat) (D : Nat → DataW H) (Pl : Nat → List MemPlace), cs = [.slice (some a) len cap] ∧ base ≤ a.block ∧ len ≤ cap ∧ cap ≤ maxLen ∧ m = (if spare a.block then cap else len) ∧
      x = (.slice ((List.range len).map D) ((List.range (m - len)).map fun j => D (len + j)), MemPlace.row a (m * fs.size) ++ (List.range m).flatMap Pl) ∧
      ∀ i, i < m → ∃ (ys : List (DataW H × List MemPlace)) (n : Nat), D i = .agg (ys.map (·.1)) ∧ Pl i = ys.flatMap (·.2) ∧ ys.length = fs.size ∧
        ∀ (j : Nat) (f : Field), fs[j]? = some f → ∃ (v : Value) (y : DataW H × List MemPlace), w.cell? (a.add (i * fs.size + j)) = some v ∧ ys[j]? = some y ∧ DataW.trod enc P w base spare held n f.type [v] = some y := by
  rcases open_slice ht h with h0 | ⟨a, len, cap, m, n, D, Pl, hcs, hb, hl, hm, hmm, hx, hi⟩
  · exact .inl h0
  · refine .inr ⟨a, len, cap, m, D, Pl, hcs, hb, hl, hm, hmm, by rw [hC] at hx; exact hx, fun i him => ?_⟩
    obtain ⟨cs', hc, ht'⟩ := hi i him
    rw [hC] at hc
    obtain ⟨ys, n', hn', hy, hlen, hyl, hf⟩ := DataW.trod_struct he ht'
    obtain ⟨_, hcl, hat⟩ := World.cells?_some hc
    simp only [Prod.mk.injEq] at hy
    refine ⟨ys, n', hy.1, hy.2, hyl, fun j f hj => ?_⟩
    obtain ⟨ho, hk⟩ := hone_of hone j f hj
    have hjl : j < fs.size := (Array.getElem?_eq_some_iff.1 hj).1
    have hcell := hat j hjl
    have hv : cs'[j]? = some (cs'[j]'(by omega)) := List.getElem?_eq_getElem (by omega)
    have h1 := hf j f hj
    rw [ho, hk] at h1
    have hone' : (cs'.drop j).take 1 = [cs'[j]'(by omega)] := by
      rw [List.drop_eq_getElem_cons (by omega)]
      rfl
    rw [hone'] at h1
    have hys : ys[j]? = some (ys[j]'(by omega)) := List.getElem?_eq_getElem (by omega)
    refine ⟨_, _, ?_, hys, h1.trans hys⟩
    rw [← Go.Deep.add_add, hcell, hv]

def cellN (w : World) (a : Addr) (k : Nat) : Int := intOf ((w.cell? (a.add k)).getD undef)
theorem open_rects {t e ti : TypeId} {f0 f1 f2 f3 : Field} {v : Value} {d : DataW H} {p : List MemPlace} (ht : P.underlying t = some (.slice e)) (he : P.underlying e = some (.struct #[f0, f1, f2, f3]))
    (hone : oneCellFields P #[f0, f1, f2, f3] = true) (hC : P.cellsOf e = 4) (hti : P.underlying ti = some (.int .i64)) (e0 : f0.type = ti) (e1 : f1.type = ti) (e2 : f2.type = ti) (e3 : f3.type = ti)
    (hv : ∃ a n c, v = .slice a n c) (h : DataW.Trod enc P w base spare held t v d p) :
    ∃ (a : Option Addr) (l : List Rc) (cap : Nat), v = .slice a l.length cap ∧ l.length ≤ maxLen ∧ InRects w.heap.size w a l := by
  obtain ⟨fuel, hf⟩ := h
  obtain ⟨a0, n0, c0, rfl⟩ := hv
  have hcells : (Value.slice a0 n0 c0).cells.toList = [.slice a0 n0 c0] := rfl
  rw [hcells] at hf
  rcases open_slice_fields ht he hone hC hf with ⟨h0, _⟩ | ⟨a, len, cap, m, D, Pl, hcs, _, hl, hm, hmm, _, hi⟩
  · simp only [List.cons.injEq, and_true] at h0
    refine ⟨none, [], 0, h0, by simp, fun i r hir => by simp at hir⟩
  · simp only [List.cons.injEq, and_true] at hcs
    have hle : len ≤ m := by rw [hmm]; split <;> omega
    refine ⟨some a, (List.range len).map fun i => ⟨cellN w a (i * 4), cellN w a (i * 4 + 1), cellN w a (i * 4 + 2), cellN w a (i * 4 + 3)⟩, cap, by simpa using hcs, by simp; omega, fun i r hir => ?_⟩
    have hil : i < len := by
      have := (List.getElem?_eq_some_iff.1 hir).1
      simpa using this
    rw [List.getElem?_map, List.getElem?_range hil] at hir
    simp only [Option.map_some, Option.some.injEq] at hir
    obtain ⟨ys, n, _, _, _, hall⟩ := hi i (by omega)
    have hz : ∀ j f, (#[f0, f1, f2, f3] : Array Field)[j]? = some f → f.type = ti → w.cell? (a.add (i * 4 + j)) = some (.int .i64 (cellN w a (i * 4 + j))) := by
      intro j f hj hft
      obtain ⟨v', y, hc, _, hy⟩ := hall j f hj
      rw [hft] at hy
      obtain ⟨z, hz, _, _⟩ := DataW.trod_int hti hy
      simp only [List.cons.injEq, and_true] at hz
      subst hz
      have hc' : w.cell? (a.add (i * 4 + j)) = some (.int .i64 z) := hc
      rw [hc', cellN, hc']
      rfl
    have h0 := hz 0 f0 rfl e0
    have h1 := hz 1 f1 rfl e1
    have h2 := hz 2 f2 rfl e2
    have h3 := hz 3 f3 rfl e3
    obtain ⟨b, off, spot⟩ := a
    have hspot : spot = none := by
      obtain ⟨ys', n', _, _, _, hall'⟩ := hi 0 (by omega)
      obtain ⟨v', y, hc, _, _⟩ := hall' 0 f0 rfl
      simpa [Addr.add] using World.cell?_spot hc
    subst hspot
    rw [Addr.add_mid] at h0 h1 h2 h3
    subst hir
    exact ⟨b, off, rfl, World.block_lt_of_cell? _ _ h0, h0, h1, h2, h3⟩
end
end Go.Proofs.Ytldgjocjcbhkmaa
