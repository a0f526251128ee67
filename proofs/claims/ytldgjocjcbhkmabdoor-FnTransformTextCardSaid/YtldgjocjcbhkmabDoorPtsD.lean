/- Rows of points. -/
import Derived.Test.YtldgjocjcbhkmabDoorGeo
import Derived.Laws.AppendOwn
import Derived.Laws.OwnMore
import Derived.Deep.Onto
import Derived.Deep.AppendLies
namespace Go.Proofs.YtldgjocjcbhkmabDoor
open Go.RowKit
attribute [local go_sem low] cell_alloc_ite frozen_alloc_ite

def rowP : List (Int × Int) → List Value
  | [] => []
  | r :: l => .int .i64 r.1 :: .int .i64 r.2 :: rowP l
theorem rowP_length : ∀ l : List (Int × Int), (rowP l).length = l.length * 2
  | [] => rfl
  | _ :: l => by simp only [rowP, List.length_cons, rowP_length l]; omega
theorem rowP_get : ∀ (l : List (Int × Int)) (i : Nat) (h : i < l.length), (rowP l)[i * 2]? = some (.int .i64 l[i].1) ∧ (rowP l)[i * 2 + 1]? = some (.int .i64 l[i].2)
  | r :: l, 0, h => by simp [rowP]
  | r :: l, i + 1, h => by
    have := rowP_get l i (by simpa using h)
    rw [show (i + 1) * 2 = i * 2 + 1 + 1 from by omega]
    simpa [rowP] using this
def OwnPts (w : World) (base : Nat) (v : Value) (l : List (Int × Int)) : Prop := w.ownsRow base 37 2 v l.length (rowP l)
/-- The points lie, from the head of block g < B on, behind the address a. -/
def PtsAt (B : Nat) (w : World) (a : Option Addr) (l : List (Int × Int)) : Prop := ∀ i r, l[i]? = some r → ∃ g, a = some ⟨g, 0, none⟩ ∧ g < B ∧
  w.cell? ⟨g, i * 2, none⟩ = some (.int .i64 r.1) ∧ w.cell? ⟨g, i * 2 + 1, none⟩ = some (.int .i64 r.2)
theorem PtsAt.below {B C : Nat} {w w' : World} {a : Option Addr} {l : List (Int × Int)} (h : PtsAt B w a l) (hb : Below C w w') (hc : B ≤ C) : PtsAt B w' a l := fun i r hi => by
  obtain ⟨g, ha, hg, c0, c1⟩ := h i r hi
  exact ⟨g, ha, hg, (hb.cell (p := ⟨g, _, none⟩) (Nat.lt_of_lt_of_le hg hc)).trans c0, (hb.cell (p := ⟨g, _, none⟩) (Nat.lt_of_lt_of_le hg hc)).trans c1⟩
theorem PtsAt.kept {w w' : World} {a : Option Addr} {l : List (Int × Int)} (h : PtsAt w.heap.size w a l) (hb : Below w.heap.size w w') : PtsAt w'.heap.size w' a l := fun i r hi => by
  obtain ⟨g, ha, hg, c⟩ := (h.below hb (Nat.le_refl _)) i r hi
  exact ⟨g, ha, Nat.lt_of_lt_of_le hg hb.size, c⟩
theorem pts_at {w : World} {base n cap : Nat} {a : Option Addr} {l : List (Int × Int)} (h : OwnPts w base (.slice a n cap) l) : PtsAt w.heap.size w a l := by
  intro i r hi
  have hl : i < l.length := (List.getElem?_eq_some_iff.1 hi).1
  rcases h.2 with ⟨_, h0⟩ | ⟨g, cap', cur, hq, _, hg, _, _, _, htk⟩
  · omega
  · simp only [Value.slice.injEq] at hq
    obtain ⟨rfl, _, _⟩ := hq
    obtain ⟨r0, r1⟩ := rowP_get l i hl
    obtain rfl : l[i] = r := by rw [List.getElem?_eq_getElem hl] at hi; exact Option.some.inj hi
    have hc : ∀ j, j < l.length * 2 → w.cell? ⟨g, j, none⟩ = (rowP l)[j]? := fun j hj => by
      rw [cell_of_row w g j cur 37 (0, 0) hg, ← htk, List.getElem?_take, if_pos hj]
      simp
    exact ⟨g, rfl, (Array.getElem?_eq_some_iff.1 hg).1, (hc _ (by omega)).trans r0, (hc _ (by omega)).trans r1⟩
theorem point_info : (Tryd.prog.info? 37).map (fun i => (i.zero, i.size, i.bytes)) = some (some (.agg #[.int .i64 0, .int .i64 0]), 2, 16) := by kernel_rfl
theorem own_below {w w' : World} {base e size n : Nat} {v : Value} {xs : List Value} (h : w.ownsRow base e size v n xs) (hb : Below w.heap.size w w') : w'.ownsRow base e size v n xs :=
  h.kept (row := none) ⟨hb.os, hb.tape, hb.output, hb.size, fun k hk _ => hb.block k hk⟩ (by
    cases h0 : v.ownBlock
    · exact .inl rfl
    · exact .inr (by simp))
theorem ownP_next {w w' : World} {base : Nat} {v : Value} {l : List (Int × Int)} (h : OwnPts w base v l) (hb : Below w.heap.size w w') : OwnPts w' base v l := own_below h hb
theorem rowP_app : ∀ (l m : List (Int × Int)), rowP (l ++ m) = rowP l ++ rowP m
  | [], m => rfl
  | r :: l, m => by simp only [List.cons_append, rowP, rowP_app l m]
theorem ownP_slice {w : World} {base : Nat} {v : Value} {l : List (Int × Int)} (h : OwnPts w base v l) : ∃ a cap, v = .slice a l.length cap := by
  rcases h.2 with ⟨rfl, hl⟩ | ⟨g, cap, cur, rfl, _⟩
  · exact ⟨none, 0, by rw [hl]⟩
  · exact ⟨_, _, rfl⟩
theorem wpList_append_point {w : World} {ops : Array Oper} {rest : List Oper} {o : Oper} {a : Act} {Q : Exit → Act → World → Prop} (hgd : o.guard = none) (s x : Operand)
    (ho : o.op = .call { callee := .builtin .append, args := #[s, x], argTypes := #[38, 38] })
    (base : Nat) (v : Value) (D : List (Int × Int)) (hs : a.eval s = v) (hown : OwnPts w base v D)
    (g : Nat) (p : Int × Int) (hx : a.eval x = .slice (some ⟨g, 0, none⟩) 1 1) (h0 : w.cell? ⟨g, 0, none⟩ = some (.int .i64 p.1)) (h1 : w.cell? ⟨g, 1, none⟩ = some (.int .i64 p.2)) (hlen : D.length ≤ 1000) (hbase : base ≤ w.heap.size)
    (h : ∀ v' w', OwnPts w' base v' (D ++ [p]) → w.grownBy w' v.ownBlock → wpList Tryd.prog ops Q rest (a.put o.dst v') w') : wpList Tryd.prog ops Q (o :: rest) a w := by
  obtain ⟨ii, hii, hiz⟩ := Option.map_eq_some_iff.1 point_info
  simp only [Prod.mk.injEq] at hiz
  obtain ⟨hz, hsz, hby⟩ := hiz
  unfold OwnPts at hown h
  refine wpList_append_own w hgd s x 38 ho base 37 ii _ 2 16 Tryd.underlying38 hii hz hsz hby rfl (by decide) v D.length (rowP D) hs hown ⟨g, 0, none⟩ 1 1 [.int .i64 p.1, .int .i64 p.2] hx rfl
    (fun j u hu => ?_) (fun u hu => by simp only [List.mem_cons, List.not_mem_nil, or_false] at hu; rcases hu with rfl | rfl <;> rfl) (by unfold maxLen; omega) (by omega) hbase fun v' w' h2 h3 _ => h v' w' (by rw [List.length_append, rowP_app]; exact h2) h3
  match j, hu with
  | 0, hu => simp only [List.getElem?_cons_zero, Option.some.injEq] at hu; subst hu; exact h0
  | 1, hu => simp only [List.getElem?_cons_succ, List.getElem?_cons_zero, Option.some.injEq] at hu; subst hu; exact h1
  | j + 2, hu => simp at hu
end Go.Proofs.YtldgjocjcbhkmabDoor
