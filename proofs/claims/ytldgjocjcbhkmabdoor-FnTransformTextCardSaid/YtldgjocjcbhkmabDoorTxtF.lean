/- Plain law: a transform is found again from the images of three points. What the law's loop keeps. -/
import Derived.Test.YtldgjocjcbhkmabDoorFndD
import Derived.Test.YtldgjocjcbhkmabDoorTxtS
namespace Go.Proofs.YtldgjocjcbhkmabDoor
open Go.RowKit
attribute [local go_sem low] cell_alloc_ite frozen_alloc_ite

def P3 : Pts := [(0, 0), (1, 0), (0, 2)]
def T3 (o x y : Int) : Pts := P3.map fun p => (mvX o x p.1 p.2, mvY o y p.1 p.2)
theorem t3_len (o x y : Int) : (T3 o x y).length = 3 := by simp [T3, P3]
theorem t3_at (o x y : Int) {i : Nat} (hi : i < 3) : ptN (T3 o x y) i = (mvX o x (ptN P3 i).1 (ptN P3 i).2, mvY o y (ptN P3 i).1 (ptN P3 i).2) := by
  have : i = 0 ∨ i = 1 ∨ i = 2 := by omega
  rcases this with rfl | rfl | rfl <;> rfl
theorem p3_on {i : Nat} (hi : i < 3) : vPt (ptN P3 i).1 (ptN P3 i).2 = true := by
  have : i = 0 ∨ i = 1 ∨ i = 2 := by omega
  rcases this with rfl | rfl | rfl <;> decide
theorem t3_take (o x y : Int) {i : Nat} (hi : i < 3) : (T3 o x y).take (i + 1) = (T3 o x y).take i ++ [(mvX o x (ptN P3 i).1 (ptN P3 i).2, mvY o y (ptN P3 i).1 (ptN P3 i).2)] := by
  rw [List.take_add_one, ptN_get (T3 o x y) i (by rw [t3_len]; exact hi), t3_at o x y hi]; rfl
def sameTurn (i j : Nat) : Bool := (turnX i 1 0 == turnX j 1 0) && (turnY i 1 0 == turnY j 1 0) && (turnX i 0 2 == turnX j 0 2) && (turnY i 0 2 == turnY j 0 2)
theorem sameTurn_all : ∀ i ∈ List.range 8, ∀ j ∈ List.range 8, sameTurn i j = decide (i = j) := by decide +kernel
theorem turn_zero : ∀ j ∈ List.range 8, turnX (j : Int) 0 0 = 0 ∧ turnY (j : Int) 0 0 = 0 := by decide +kernel
theorem fTX3 {k : Nat} {x y : Int} (hk : k < 8) {j : Nat} (hj : j < 8) : fTX P3 (T3 k x y) j = x := by
  have h1 := (turn_zero k (List.mem_range.2 hk)).1
  have h2 := (turn_zero j (List.mem_range.2 hj)).1
  show (turnX k 0 0 + x) - turnX j 0 0 = x
  rw [h1, h2]; omega
theorem fTY3 {k : Nat} {x y : Int} (hk : k < 8) {j : Nat} (hj : j < 8) : fTY P3 (T3 k x y) j = y := by
  have h1 := (turn_zero k (List.mem_range.2 hk)).2
  have h2 := (turn_zero j (List.mem_range.2 hj)).2
  show (turnY k 0 0 + y) - turnY j 0 0 = y
  rw [h1, h2]; omega
theorem fits3 {k : Nat} {x y : Int} (hk : k < 8) (hv : vTr k x y = true) {j : Nat} (hj : j < 8) : fitsN P3 (T3 k x y) j 3 = decide (j = k) := by
  have hx := fTX3 (x := x) (y := y) hk hj
  have hy := fTY3 (x := x) (y := y) hk hj
  have hs := sameTurn_all j (List.mem_range.2 hj) k (List.mem_range.2 hk)
  have hjk : vTr (j : Int) x y = true := by
    have := vTr_iff.1 hv
    exact vTr_iff.2 ⟨by omega, this.2.1, this.2.2⟩
  rw [← hs, Bool.eq_iff_iff]
  unfold fitsN
  rw [hx, hy, hjk, Bool.true_and]
  have z1 := turn_zero k (List.mem_range.2 hk)
  have z2 := turn_zero j (List.mem_range.2 hj)
  simp only [show List.range 3 = [0, 1, 2] from rfl, List.all_cons, List.all_nil, Bool.and_true, t3_at k x y (show 0 < 3 by omega), t3_at k x y (show 1 < 3 by omega), t3_at k x y (show 2 < 3 by omega), eqMv, sameTurn, Bool.and_eq_true, beq_iff_eq, mvX, mvY]
  show ((turnX j 0 0 + x = turnX k 0 0 + x ∧ turnY j 0 0 + y = turnY k 0 0 + y) ∧ (turnX j 1 0 + x = turnX k 1 0 + x ∧ turnY j 1 0 + y = turnY k 1 0 + y) ∧ (turnX j 0 2 + x = turnX k 0 2 + x ∧ turnY j 0 2 + y = turnY k 0 2 + y)) ↔ _
  rw [z1.1, z1.2, z2.1, z2.2]
  omega
theorem find3 {k : Nat} {x y : Int} (hk : k < 8) (hv : vTr k x y = true) (hon : onP (T3 k x y) 3 = true) : FSome P3 (T3 k x y) k := by
  refine fSome_of (fOk_of (by decide) (by decide) (t3_len _ _ _) (by decide) hon) hk ?_ fun j hj => ?_
  · rw [show P3.length = 3 from rfl, fits3 hk hv hk]; simp
  · rw [show P3.length = 3 from rfl, fits3 hk hv (by omega)]; simp; omega
theorem find_back {k : Nat} {x y : Int} (hk : k < 8) (hv : vTr k x y = true) (hon : onP (T3 k x y) 3 = true) (a b : Option Addr) (ca cb : Nat) (w : World) (hP : PtsAt w.heap.size w a P3) (hQ : PtsAt w.heap.size w b (T3 k x y)) :
    Calls Tryd.prog 16 #[.slice a 3 ca, .slice b 3 cb] w fun e w' => e = .returned (.tuple #[.agg #[.int .i64 (k : Int), .int .i64 x, .int .i64 y], .bool true]) ∧ Below w.heap.size w w' := by
  have hf := find3 hk hv hon
  have h := impl_FindTransform P3 (T3 k x y) a b ca cb w hP hQ (by decide) (by rw [t3_len]; omega)
  rw [t3_len, hf.o, hf.x, hf.y, hf.b, fTX3 hk hk, fTY3 hk hk] at h
  exact h
theorem move_on {o x y p q : Int} (hv : vTr o x y = true) (hp : vPt p q = true) (w : World) :
    Calls Tryd.prog 15 #[.agg #[.int .i64 o, .int .i64 x, .int .i64 y], .agg #[.int .i64 p, .int .i64 q]] w fun e w' => e = .returned (.tuple #[.agg #[.int .i64 (mvX o x p q), .int .i64 (mvY o y p q)], .bool true]) ∧ Below w.heap.size w w' := by
  have h := impl_MovePoint o x y p q w
  rw [hv, hp] at h
  exact h
/-- What the law's loop leaves as it is: the transform drawn, the one read, the three points; all below block d. -/
structure Kept3 (A B C d : Nat) (o x y : Int) (w : World) : Prop where
  lt : A < d ∧ B < d ∧ C < d ∧ d ≤ w.heap.size
  t0 : w.cell? ⟨A, 0, none⟩ = some (.int .i64 o)
  t1 : w.cell? ⟨A, 1, none⟩ = some (.int .i64 x)
  t2 : w.cell? ⟨A, 2, none⟩ = some (.int .i64 y)
  u0 : w.cell? ⟨B, 0, none⟩ = some (.int .i64 o)
  u1 : w.cell? ⟨B, 1, none⟩ = some (.int .i64 x)
  u2 : w.cell? ⟨B, 2, none⟩ = some (.int .i64 y)
  pt : ∀ i, i < 3 → w.cell? ⟨C, i * 2, none⟩ = some (.int .i64 (ptN P3 i).1) ∧ w.cell? ⟨C, i * 2 + 1, none⟩ = some (.int .i64 (ptN P3 i).2)
theorem Kept3.kept {A B C d : Nat} {o x y : Int} {w w' : World} (h : Kept3 A B C d o x y w) (hb : Below d w w') : Kept3 A B C d o x y w' := by
  obtain ⟨la, lb, lc, ld⟩ := h.lt
  have k : ∀ b j v, b < d → w.cell? ⟨b, j, none⟩ = some v → w'.cell? ⟨b, j, none⟩ = some v := fun b j v hbd hv => (hb.cell (p := ⟨b, j, none⟩) hbd).trans hv
  exact ⟨⟨la, lb, lc, Nat.le_trans ld hb.size⟩, k _ _ _ la h.t0, k _ _ _ la h.t1, k _ _ _ la h.t2, k _ _ _ lb h.u0, k _ _ _ lb h.u1, k _ _ _ lb h.u2, fun i hi => ⟨k _ _ _ lc (h.pt i hi).1, k _ _ _ lc (h.pt i hi).2⟩⟩
theorem Kept3.pts {A B C d : Nat} {o x y : Int} {w : World} (h : Kept3 A B C d o x y w) : PtsAt w.heap.size w (some ⟨C, 0, none⟩) P3 := fun i r hr => by
  have hi : i < 3 := by have := (List.getElem?_eq_some_iff.1 hr).1; simpa [P3] using this
  have he : r = ptN P3 i := by
    have := ptN_get P3 i (by simpa [P3] using hi)
    rw [hr, Option.some.injEq] at this
    exact this
  subst he
  obtain ⟨_, _, lc, ld⟩ := h.lt
  exact ⟨C, rfl, by omega, (h.pt i hi).1, (h.pt i hi).2⟩
end Go.Proofs.YtldgjocjcbhkmabDoor
