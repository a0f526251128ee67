/- Contracts of the reference's functions on flags. -/
import Derived.Test.YtldgjocjcbhkmaaWlk
import Derived.Great.Walk
namespace Go.Proofs.Ytldgjocjcbhkmaa
open Go.RowKit
attribute [local go_sem high] run_max2 run_min2
attribute [local go_sem low] cell_alloc_ite frozen_alloc_ite

theorem RectsAt.at {B : Nat} {w w' : World} {g : Nat} {l : List Rc} (h : RectsAt B w (some ⟨g, 0, none⟩) l) (hb : Below B w w') {i : Nat} (hi : i < l.length) : g < B ∧
    w'.cell? ⟨g, i * 4, none⟩ = some (.int .i64 l[i].x0) ∧ w'.cell? ⟨g, i * 4 + 1, none⟩ = some (.int .i64 l[i].y0) ∧ w'.cell? ⟨g, i * 4 + 2, none⟩ = some (.int .i64 l[i].x1) ∧ w'.cell? ⟨g, i * 4 + 3, none⟩ = some (.int .i64 l[i].y1) := by
  obtain ⟨g', ha, hg, c⟩ := h.below hb (Nat.le_refl _) i l[i] (List.getElem?_eq_getElem hi)
  simp only [Option.some.injEq, Addr.mk.injEq, and_true] at ha
  subst ha
  exact ⟨hg, c⟩
theorem spec_l03At (i k : Nat) (hi : i < 80) (hk : k < 80) (w : World) : Calls Try.prog 135 #[.int .i64 ((k : Int) - 40), .int .i64 ((i : Int) - 40)] w fun e w' => e = .returned (.int .i64 ((i * 80 + k : Nat) : Int)) ∧ w = w' := by
  go_enter Try.func135, Try.ntmps135
  go_wp2
  go_ret
  exact ⟨reti (by omega), rfl⟩
theorem bool_info : (Try.prog.info? 4).map (fun i => (i.zero, i.size, i.bytes)) = some (some (.bool false), 1, 1) := by kernel_rfl
set_option maxRecDepth 100000 in
set_option maxHeartbeats 3200000 in
theorem spec_l03Bits (l : List Rc) (a : Option Addr) (cap : Nat) (w : World) (h : RectsAt w.heap.size w a l) (hn : l.length ≤ 1000000) (hok : ∀ r ∈ l, r.ok = true) :
    Calls Try.prog 77 #[.slice a l.length cap] w fun e w' => ∃ b, e = .returned (.slice (some ⟨b, 0, none⟩) 6400 6400) ∧ w.heap.size ≤ b ∧ w'.rowIs b 4 6400 (gv (bitsOf l)) ∧ Below w.heap.size w w' := by
  have hz := World.rowIs_made w (.bool false) 6400 4
  have hm : ∀ w : World, (Instr.makeSlice 72 (.int .i64 6400) (.int .i64 6400)).run Try.prog w = .ok (.slice (some ⟨w.heap.size, 0, none⟩) 6400 6400) (w.alloc (.cells (madeCells #[.bool false] 6400) 4)) :=
    fun w => run_make_row' (P := Try.prog) 72 4 (.bool false) 1 Try.underlying72 bool_info rfl .i64 .i64 6400 (by omega) (by omega) w
  go_enter Try.func77, Try.ntmps77
  go_wp2_with fail
  go_loopw [4] (fun sk wr => ∃ i : Nat, i ≤ l.length ∧ sk = .int .i64 i ∧ wr.rowIs w.heap.size 4 6400 (gv (bitsOf (l.take i))) ∧ Below w.heap.size w wr) (fun k _ => l.length - (intOf k).toNat)
  case atStart => exact ⟨0, Nat.zero_le _, rfl, hz, (by repeat (first | with_reducible exact Below.refl _ _ | with_reducible assumption | with_reducible refine bel_alloc ?_ _ | with_reducible refine bel_drew ?_ | with_reducible refine bel_drewN ?_ _ | with_reducible refine bel_set ?_ (by (try simp) <;> omega) _ | with_reducible refine bel_trans ?_ (by assumption)))⟩
  case round =>
    obtain ⟨i, hi, rfl, hrow, hbl⟩ := hrel
    by_cases hy : i < l.length
    · obtain ⟨g, ha, hg, c0, c1, c2, c3⟩ := h.below hbl (Nat.le_refl _) i l[i] (List.getElem?_eq_getElem hy)
      obtain ⟨x1, x2, x3, y1, y2, y3⟩ := vRect_iff.1 (hok l[i] (List.getElem_mem hy))
      subst ha
      have hsz := hrow.lt
      obtain ⟨p0, hp0⟩ : ∃ p0 : Nat, l[i].y0 = (p0 : Int) - 40 := ⟨(l[i].y0 + 40).toNat, by omega⟩
      obtain ⟨q0, hq0⟩ : ∃ q0 : Nat, l[i].x0 = (q0 : Int) - 40 := ⟨(l[i].x0 + 40).toNat, by omega⟩
      have HP := hide hp0
      have HQ := hide hq0
      clear hp0 hq0
      go_wp2_with fail
      go_loopw [5] (fun sk wr => ∃ p : Nat, p0 ≤ p ∧ p ≤ 80 ∧ sk = .int .i64 ((p : Int) - 40) ∧ wr.rowIs w.heap.size 4 6400 (gv fun a c => bitsOf (l.take i) a c || (l[i].has a c && decide (a < p))) ∧ Below w.heap.size w wr) (fun k _ => (40 - intOf k).toNat)
      case atStart =>
        refine ⟨p0, Nat.le_refl _, by have := HP.out; omega, by rw [HP.out], hrow.congr (gv_none fun a c ha hc => ?_), hbl⟩
        have := HP.out
        simp only [Bool.and_eq_true, decide_eq_true_eq, Rc.has_iff]; omega
      case round =>
        obtain ⟨p, hp, hp80, rfl, hrow1, hbl1⟩ := hrel
        have hsz1 := hrow1.lt
        obtain ⟨_, d0, d1, d2, d3⟩ := h.at hbl1 hy
        by_cases hy1 : (p : Int) - 40 < l[i].y1
        · go_wp2_with fail
          go_loopw [6] (fun sk wr => ∃ q : Nat, q0 ≤ q ∧ q ≤ 80 ∧ sk = .int .i64 ((q : Int) - 40) ∧ wr.rowIs w.heap.size 4 6400 (gv fun a c => bitsOf (l.take i) a c || (l[i].has a c && (decide (a < p) || (decide (a = p) && decide (c < q))))) ∧ Below w.heap.size w wr) (fun k _ => (40 - intOf k).toNat)
          case atStart =>
            refine ⟨q0, Nat.le_refl _, by have := HQ.out; omega, by rw [HQ.out], hrow1.congr (gv_or fun a c ha hc => ?_), hbl1⟩
            have := HQ.out
            simp only [Bool.and_eq_true, Bool.or_eq_true, decide_eq_true_eq, Rc.has_iff]; omega
          case round =>
            obtain ⟨q, hq, hq80, rfl, hrow2, hbl2⟩ := hrel
            have hsz2 := hrow2.lt
            obtain ⟨_, e0, e1, e2, e3⟩ := h.at hbl2 hy
            by_cases hx1 : (q : Int) - 40 < l[i].x1
            · have hcell := hrow2.cell (i := p * 80 + q) (by omega)
              have hfro := hrow2.frozen (p * 80 + q)
              go_wp2_with (go_at_call 135; refine (spec_l03At p q (by omega) (by omega) _).mono ?_; rintro e w1 ⟨rfl, rfl⟩)
              go_roundw
              case rel =>
                have := HP.out
                have := HQ.out
                refine ⟨q + 1, by omega, by omega, by go_num, ?_, hbl2.setCell (Nat.le_refl _) _⟩
                refine row_set hrow2 (by omega) fun a c ha hc => ?_
                simp only [Bool.and_eq_true, Bool.or_eq_true, decide_eq_true_eq, Rc.has_iff]; omega
              case measure => simp [intOf]; omega
            · go_wp2
              go_roundw
              case rel =>
                have := HP.out
                have := HQ.out
                refine ⟨p + 1, by omega, by omega, by go_num, hrow2.congr (gv_or fun a c ha hc => ?_), hbl2⟩
                simp only [Bool.and_eq_true, Bool.or_eq_true, decide_eq_true_eq, Rc.has_iff]; omega
              case measure => simp [intOf]; omega
        · go_wp2
          go_roundw
          case rel =>
            have := HP.out
            refine ⟨i + 1, hy, by go_num, hrow1.congr fun n hn => ?_, hbl1⟩
            simp only [gv]
            rw [bits_take hy]
            refine congrArg Value.bool (congrArg _ (Bool.eq_iff_iff.2 ?_))
            simp only [Bool.and_eq_true, decide_eq_true_eq, Rc.has_iff]; omega
          case measure => simp [intOf]; omega
    · go_wp2
      go_ret
      refine ⟨w.heap.size, rfl, Nat.le_refl _, ?_, hbl⟩
      rw [show l.take i = l from List.take_of_length_le (by omega)] at hrow
      exact hrow
end Go.Proofs.Ytldgjocjcbhkmaa
