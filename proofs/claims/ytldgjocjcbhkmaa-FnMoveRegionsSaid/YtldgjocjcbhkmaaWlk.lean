/- Contracts of the functions on sets of unit cells. -/
import Derived.Test.YtldgjocjcbhkmaaReg
import Derived.Deep.OwnRows
import Derived.Deep.DeepCutAuto
namespace Go.Proofs.Ytldgjocjcbhkmaa
open Go.RowKit
attribute [local go_sem high] run_max2 run_min2
attribute [local go_sem low] cell_alloc_ite frozen_alloc_ite

/-- Cell n of the row of flags. -/
def gv (g : Grid) : Nat → Value := fun n => .bool (g (n / 80) (n % 80))
theorem gv_at (g : Grid) {i k : Nat} (hk : k < 80) : gv g (i * 80 + k) = .bool (g i k) := by
  unfold gv
  rw [show (i * 80 + k) / 80 = i from by omega, show (i * 80 + k) % 80 = k from by omega]
/-- Rectangle r up to the row y and, in it, up to the column x. -/
def upG (g : Grid) (r : Rc) (y x : Nat) : Grid := fun i k => g i k || (r.has i k && (decide (i < y) || (decide (i = y) && decide (k < x))))
theorem gv_or {g X Y : Grid} (h : ∀ a c, a < 80 → c < 80 → (X a c = true ↔ Y a c = true)) (n : Nat) (hn : n < 6400) : gv (fun a c => g a c || X a c) n = gv (fun a c => g a c || Y a c) n := by
  simp only [gv]
  rw [Bool.eq_iff_iff.2 (h (n / 80) (n % 80) (by omega) (by omega))]
theorem gv_none {g X : Grid} (h : ∀ a c, a < 80 → c < 80 → ¬ X a c = true) (n : Nat) (hn : n < 6400) : gv g n = gv (fun a c => g a c || X a c) n := by
  simp only [gv]
  rw [Bool.eq_false_iff.2 (h (n / 80) (n % 80) (by omega) (by omega)), Bool.or_false]
theorem row_set {w : World} {b : Nat} {t : TypeId} {g X Y : Grid} (hr : w.rowIs b t 6400 (gv fun a c => g a c || X a c)) {i k : Nat} (hk : k < 80)
    (e : ∀ a c, a < 80 → c < 80 → (Y a c = true ↔ X a c = true ∨ (a = i ∧ c = k))) : (w.setCell ⟨b, i * 80 + k, none⟩ (.bool true)).rowIs b t 6400 (gv fun a c => g a c || Y a c) :=
  (hr.set (i * 80 + k) (.bool true)).congr fun n hn => by
    have he := e (n / 80) (n % 80) (by omega) (by omega)
    by_cases hq : n = i * 80 + k
    · rw [if_pos hq]; simp only [gv]; rw [he.2 (.inr ⟨by omega, by omega⟩), Bool.or_true]
    · rw [if_neg hq]; simp only [gv]
      rw [show Y (n / 80) (n % 80) = X (n / 80) (n % 80) from Bool.eq_iff_iff.2 ⟨fun h => (he.1 h).resolve_right fun hh => hq (by omega), fun h => he.2 (.inl h)⟩]
set_option maxRecDepth 100000 in
set_option maxHeartbeats 1600000 in
theorem impl_put (r0 r1 r2 r3 : Int) (b t : Nat) (g : Grid) (w : World) (hrow : w.rowIs b t 6400 (gv g)) :
    Calls Try.prog 121 #[.pointer (some ⟨b, 0, none⟩), .agg #[.int .i64 r0, .int .i64 r1, .int .i64 r2, .int .i64 r3]] w fun e w' => e = .returned (.tuple #[]) ∧ w'.rowIs b t 6400 (gv fun i k => g i k || (Rc.mk r0 r1 r2 r3).has i k) ∧ Below b w w' := by
  have hlt := hrow.lt
  obtain ⟨i0, hi0⟩ : ∃ i0 : Nat, max r1 (-40) = (i0 : Int) - 40 := ⟨(max r1 (-40) + 40).toNat, by omega⟩
  obtain ⟨k0, hk0⟩ : ∃ k0 : Nat, max r0 (-40) = (k0 : Int) - 40 := ⟨(max r0 (-40) + 40).toNat, by omega⟩
  have HI0 := hide hi0
  have HK0 := hide hk0
  go_enter Try.func121, Try.ntmps121
  go_wp2_with fail
  go_loopw [4] (fun sk wr => ∃ i : Nat, i0 ≤ i ∧ sk = .int .i64 ((i : Int) - 40) ∧ wr.rowIs b t 6400 (gv fun a c => g a c || ((Rc.mk r0 r1 r2 r3).has a c && decide (a < i))) ∧
      wr.cell? ⟨w.heap.size, 0, none⟩ = some (.int .i64 r0) ∧ wr.cell? ⟨w.heap.size, 1, none⟩ = some (.int .i64 r1) ∧ wr.cell? ⟨w.heap.size, 2, none⟩ = some (.int .i64 r2) ∧ wr.cell? ⟨w.heap.size, 3, none⟩ = some (.int .i64 r3) ∧ w.heap.size < wr.heap.size ∧ Below b w wr) (fun k _ => (40 - intOf k).toNat)
  case atStart =>
    refine ⟨i0, Nat.le_refl _, by go_num, ((hrow.alloc _)).congr (gv_none fun a c ha hc => ?_), by simp [go_sem], by simp [go_sem], by simp [go_sem], by simp [go_sem], by simp, (Below.refl _ _).alloc (by omega) _⟩
    have := HI0.out
    simp only [Bool.and_eq_true, decide_eq_true_eq, Rc.has_iff]; omega
  case round =>
    obtain ⟨i, hi, rfl, hrow1, c0, c1, c2, c3, hz, hbl⟩ := hrel
    by_cases hy : (i : Int) - 40 < min r3 40
    · go_wp2_with fail
      go_loopw [5] (fun sk wr => ∃ k : Nat, k0 ≤ k ∧ sk = .int .i64 ((k : Int) - 40) ∧ wr.rowIs b t 6400 (gv fun a c => g a c || ((Rc.mk r0 r1 r2 r3).has a c && (decide (a < i) || (decide (a = i) && decide (c < k))))) ∧
          wr.cell? ⟨w.heap.size, 0, none⟩ = some (.int .i64 r0) ∧ wr.cell? ⟨w.heap.size, 1, none⟩ = some (.int .i64 r1) ∧ wr.cell? ⟨w.heap.size, 2, none⟩ = some (.int .i64 r2) ∧ wr.cell? ⟨w.heap.size, 3, none⟩ = some (.int .i64 r3) ∧ w.heap.size < wr.heap.size ∧ Below b w wr) (fun k _ => (40 - intOf k).toNat)
      case atStart =>
        refine ⟨k0, Nat.le_refl _, by go_num, hrow1.congr (gv_or fun a c ha hc => ?_), c0, c1, c2, c3, hz, hbl⟩
        have := HK0.out
        simp only [Bool.and_eq_true, Bool.or_eq_true, decide_eq_true_eq, Rc.has_iff]; omega
      case round =>
        obtain ⟨k, hk, rfl, hrow2, d0, d1, d2, d3, hz2, hbl2⟩ := hrel
        by_cases hx : (k : Int) - 40 < min r2 40
        · have hcell := hrow2.cell (i := i * 80 + k) (by omega)
          have hfro := hrow2.frozen (i * 80 + k)
          go_wp2
          go_roundw
          case rel =>
            have := HI0.out
            have := HK0.out
            have hne : w.heap.size ≠ b := by omega
            refine ⟨k + 1, by omega, by go_num, ?_, ?_⟩
            · refine row_set hrow2 (by omega) fun a c ha hc => ?_
              simp only [Bool.and_eq_true, Bool.or_eq_true, decide_eq_true_eq, Rc.has_iff]; omega
            · exact ⟨by simp [go_sem, *], by simp [go_sem, *], by simp [go_sem, *], by simp [go_sem, *], by simp; omega, hbl2.setCell (Nat.le_refl b) (Value.bool true)⟩
          case measure => simp [intOf]; omega
        · go_wp2
          go_roundw
          case rel =>
            have := HI0.out
            have := HK0.out
            refine ⟨i + 1, by omega, by go_num, hrow2.congr (gv_or fun a c ha hc => ?_), d0, d1, d2, d3, hz2, hbl2⟩
            simp only [Bool.and_eq_true, Bool.or_eq_true, decide_eq_true_eq, Rc.has_iff]; omega
          case measure => simp [intOf]; omega
    · go_wp2
      refine bodyPost_end (v := .tuple #[]) (by simp [results, Try.results121, go_sem]) rfl ⟨rfl, hrow1.congr (gv_or fun a c ha hc => ?_), hbl⟩
      have := HI0.out
      simp only [Bool.and_eq_true, decide_eq_true_eq, Rc.has_iff]; omega

/-- The list lies, from the head of block g < B on, behind the slice's address a (if it has an element at all). -/
def RectsAt (B : Nat) (w : World) (a : Option Addr) (l : List Rc) : Prop := ∀ i r, l[i]? = some r → ∃ g, a = some ⟨g, 0, none⟩ ∧ g < B ∧
  w.cell? ⟨g, i * 4, none⟩ = some (.int .i64 r.x0) ∧ w.cell? ⟨g, i * 4 + 1, none⟩ = some (.int .i64 r.y0) ∧ w.cell? ⟨g, i * 4 + 2, none⟩ = some (.int .i64 r.x1) ∧ w.cell? ⟨g, i * 4 + 3, none⟩ = some (.int .i64 r.y1)
theorem RectsAt.below {B C : Nat} {w w' : World} {a : Option Addr} {l : List Rc} (h : RectsAt B w a l) (hb : Below C w w') (hc : B ≤ C) : RectsAt B w' a l := fun i r hi => by
  obtain ⟨g, ha, hg, c0, c1, c2, c3⟩ := h i r hi
  exact ⟨g, ha, hg, (hb.cell (p := ⟨g, _, none⟩) (Nat.lt_of_lt_of_le hg hc)).trans c0, (hb.cell (p := ⟨g, _, none⟩) (Nat.lt_of_lt_of_le hg hc)).trans c1,
    (hb.cell (p := ⟨g, _, none⟩) (Nat.lt_of_lt_of_le hg hc)).trans c2, (hb.cell (p := ⟨g, _, none⟩) (Nat.lt_of_lt_of_le hg hc)).trans c3⟩
def isF : Value → Bool
  | .bool false => true
  | _ => false
theorem isF_eq {v : Value} (h : isF v = true) : v = .bool false := by
  unfold isF at h
  split at h
  · rfl
  · exact absurd h (by simp)
theorem zero_row (w : World) : (w.alloc (Obj.cells Try.zeroCells103 103)).rowIs w.heap.size 103 6400 (gv (bitsOf [])) := by
  have ha : Try.zeroCells103.toList.all isF = true := by kernel_rfl
  have hs := Try.zeroCells103_size
  rw [← hs]
  refine World.rowIs_alloc w _ _ _ fun i hi => ?_
  have h2 := List.all_eq_true.1 ha _ (Array.getElem_mem_toList hi)
  rw [Array.getElem?_eq_getElem hi]
  exact congrArg some (isF_eq h2)
theorem bits_take {l : List Rc} {i : Nat} (hy : i < l.length) (a c : Nat) : bitsOf (l.take (i + 1)) a c = (bitsOf (l.take i) a c || l[i].has a c) := by
  unfold bitsOf
  rw [List.take_succ_eq_append_getElem hy, List.any_append]
  simp only [List.any_cons, List.any_nil, Bool.or_false]
set_option maxRecDepth 100000 in
set_option maxHeartbeats 1600000 in
theorem impl_cellsOf (l : List Rc) (a : Option Addr) (cap : Nat) (w : World) (h : RectsAt w.heap.size w a l) (hn : l.length ≤ 1000000) :
    Calls Try.prog 88 #[.slice a l.length cap] w fun e w' => ∃ b, e = .returned (.pointer (some ⟨b, 0, none⟩)) ∧ w.heap.size ≤ b ∧ w'.rowIs b 103 6400 (gv (bitsOf l)) ∧ Below w.heap.size w w' := by
  go_enter Try.func88, Try.ntmps88
  go_upto_region 2 with fail
  have hz := zero_row w
  go_wp2_with fail
  go_loopw [10] (fun sk wr => ∃ i : Nat, i ≤ l.length ∧ sk = .int .i64 i ∧ wr.rowIs w.heap.size 103 6400 (gv (bitsOf (l.take i))) ∧ Below w.heap.size w wr) (fun k _ => l.length - (intOf k).toNat)
  case atStart => exact ⟨0, Nat.zero_le _, rfl, hz, (by repeat (first | with_reducible exact Below.refl _ _ | with_reducible assumption | with_reducible refine bel_alloc ?_ _ | with_reducible refine bel_drew ?_ | with_reducible refine bel_drewN ?_ _ | with_reducible refine bel_set ?_ (by (try simp) <;> omega) _ | with_reducible refine bel_trans ?_ (by assumption)))⟩
  case round =>
    obtain ⟨i, hi, rfl, hrow, hbl⟩ := hrel
    by_cases hy : i < l.length
    · obtain ⟨g, ha, hg, c0, c1, c2, c3⟩ := h.below hbl (Nat.le_refl _) i l[i] (List.getElem?_eq_getElem hy)
      subst ha
      have hsz := hrow.lt
      go_wp2_with (go_at_call 121; refine (impl_put _ _ _ _ _ _ _ _ (hrow.alloc _)).mono ?_; rintro e w1 ⟨rfl, hrow1, hb1⟩)
      go_roundw
      case rel =>
        refine ⟨i + 1, hy, by go_num, hrow1.congr fun n hn => ?_, ?_⟩
        · simp only [gv]
          rw [bits_take hy]
        · exact (hbl.alloc hbl.size _).trans (hb1.mono (Nat.le_refl _))
      case measure => simp [intOf]; omega
    · go_wp2
      go_ret
      refine ⟨w.heap.size, rfl, Nat.le_refl _, ?_, hbl⟩
      rw [show l.take i = l from List.take_of_length_le (by omega)] at hrow
      exact hrow
end Go.Proofs.Ytldgjocjcbhkmaa
