/- A law's argument that is a slice of slices of rectangles, opened to its cells. No condition. -/
import Derived.Test.YtldgjocjcbhkmaaFrameR
import Derived.Test.YtldgjocjcbhkmaaLawS
namespace Go.Proofs.Ytldgjocjcbhkmaa
open Go.ChangeShapes Go.WideShapes Go.Deep Go.RowKit

/-- The lists lie behind the slice's address a, wherever, below block B. -/
def InSS (B : Nat) (w : World) (a : Option Addr) (ls : List (List Rc)) : Prop := ∀ i l, ls[i]? = some l → ∃ g off b c, a = some ⟨g, off, none⟩ ∧ g < B ∧
  w.cell? ⟨g, off + i, none⟩ = some (.slice b l.length c) ∧ l.length ≤ maxLen ∧ InRects B w b l
theorem InSS.below {B C : Nat} {w w' : World} {a : Option Addr} {ls : List (List Rc)} (h : InSS B w a ls) (hb : Below C w w') (hc : B ≤ C) : InSS B w' a ls := fun i l hi => by
  obtain ⟨g, off, b, c, ha, hg, c0, hm, hr⟩ := h i l hi
  exact ⟨g, off, b, c, ha, hg, (hb.cell (p := ⟨g, _, none⟩) (Nat.lt_of_lt_of_le hg hc)).trans c0, hm, hr.below hb hc⟩
theorem InSS.mono {B C : Nat} {w : World} {a : Option Addr} {ls : List (List Rc)} (h : InSS B w a ls) (hc : B ≤ C) : InSS C w a ls := fun i l hi => by
  obtain ⟨g, off, b, c, ha, hg, c0, hm, hr⟩ := h i l hi
  exact ⟨g, off, b, c, ha, Nat.lt_of_lt_of_le hg hc, c0, hm, hr.mono hc⟩
theorem inss_at {W w : World} {a : Option Addr} {ls : List (List Rc)} (h : InSS W.heap.size W a ls) (hb : Below W.heap.size W w) : InSS w.heap.size w a ls := (h.below hb (Nat.le_refl _)).mono hb.size

/-- A list of things that hold, one for each place. -/
theorem pick_list {α : Type} {p : Nat → α → Prop} : ∀ n, (∀ i, i < n → ∃ x, p i x) → ∃ xs : List α, xs.length = n ∧ ∀ i x, xs[i]? = some x → p i x
  | 0, _ => ⟨[], rfl, fun i x h => by simp at h⟩
  | n + 1, h => by
    obtain ⟨xs, hl, hp⟩ := pick_list n fun i hi => h i (by omega)
    obtain ⟨y, hy⟩ := h n (by omega)
    refine ⟨xs ++ [y], by simp [hl], fun i x hx => ?_⟩
    by_cases hi : i < n
    · rw [List.getElem?_append_left (by omega)] at hx
      exact hp i x hx
    · rw [List.getElem?_append_right (by omega)] at hx
      by_cases e : i = n
      · subst e
        simp only [hl, Nat.sub_self, List.getElem?_cons_zero, Option.some.injEq] at hx
        exact hx ▸ hy
      · rw [List.getElem?_eq_none (by simp; omega)] at hx
        exact absurd hx (by simp)

section
variable {H : Type} {enc : TypeId × Value → H} {P : Program} {w : World} {base : Nat} {spare : Nat → Bool} {held : Bool}
theorem open_rectss {t0 t e ti : TypeId} {f0 f1 f2 f3 : Field} {v : Value} {d : DataW H} {p : List MemPlace} (ht0 : P.underlying t0 = some (.slice t)) (hC0 : P.cellsOf t = 1) (ht : P.underlying t = some (.slice e)) (he : P.underlying e = some (.struct #[f0, f1, f2, f3]))
    (hone : oneCellFields P #[f0, f1, f2, f3] = true) (hC : P.cellsOf e = 4) (hti : P.underlying ti = some (.int .i64)) (e0 : f0.type = ti) (e1 : f1.type = ti) (e2 : f2.type = ti) (e3 : f3.type = ti)
    (hv : ∃ a n c, v = .slice a n c) (h : DataW.Trod enc P w base spare held t0 v d p) :
    ∃ (a : Option Addr) (ls : List (List Rc)) (cap : Nat), v = .slice a ls.length cap ∧ ls.length ≤ maxLen ∧ InSS w.heap.size w a ls := by
  obtain ⟨fuel, hf⟩ := h
  obtain ⟨a0, n0, c0, rfl⟩ := hv
  have hcells : (Value.slice a0 n0 c0).cells.toList = [.slice a0 n0 c0] := rfl
  rw [hcells] at hf
  rcases open_slice1 ht0 hC0 hf with ⟨h0, _⟩ | ⟨a, len, cap, m, n, V, D, Pl, hcs, _, hl, hm, hmm, _, hi⟩
  · simp only [List.cons.injEq, and_true] at h0
    exact ⟨none, [], 0, h0, by simp, fun i r hir => by simp at hir⟩
  · simp only [List.cons.injEq, and_true] at hcs
    have hle : len ≤ m := by rw [hmm]; split <;> omega
    obtain ⟨ls, hls, hp⟩ := pick_list (p := fun i l => ∃ b c, V i = .slice b l.length c ∧ l.length ≤ maxLen ∧ InRects w.heap.size w b l) len (fun i hil => by
      obtain ⟨hc, htr⟩ := hi i (by omega)
      have hform : ∃ a n c, V i = .slice a n c := by
        rcases open_slice_fields ht he hone hC htr with ⟨h0, _⟩ | ⟨a, len, cap, m, D, Pl, hcs, _⟩
        · simp only [List.cons.injEq, and_true] at h0
          exact ⟨_, _, _, h0⟩
        · simp only [List.cons.injEq, and_true] at hcs
          exact ⟨_, _, _, hcs⟩
      have hce : (V i).cells.toList = [V i] := by obtain ⟨a, n, c, e⟩ := hform; rw [e]; rfl
      obtain ⟨b, l, c, hV, hlm, hin⟩ := open_rects ht he hone hC hti e0 e1 e2 e3 hform ⟨n, by rw [hce]; exact htr⟩
      exact ⟨l, b, c, hV, hlm, hin⟩)
    refine ⟨some a, ls, cap, by rw [hls]; exact hcs, by omega, fun i l hil => ?_⟩
    obtain ⟨b, c, hV, hlm, hin⟩ := hp i l hil
    have hlt : i < len := by have := (List.getElem?_eq_some_iff.1 hil).1; omega
    obtain ⟨hc, _⟩ := hi i (by omega)
    obtain ⟨g, off, spot⟩ := a
    have hspot : spot = none := by
      obtain ⟨hc', _⟩ := hi 0 (by omega)
      simpa [Addr.add] using World.cell?_spot hc'
    subst hspot
    rw [Addr.add_mid, hV] at hc
    exact ⟨g, off, b, c, rfl, World.block_lt_of_cell? _ _ hc, hc, hlm, hin⟩
end
end Go.Proofs.Ytldgjocjcbhkmaa
