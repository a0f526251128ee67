/- Contracts: rows of numbers compared. -/
import Derived.Test.YtldgjocjcbhkmaaWlk4
namespace Go.Proofs.Ytldgjocjcbhkmaa
open Go.RowKit
attribute [local go_sem low] cell_alloc_ite frozen_alloc_ite

def IntsAt (B : Nat) (w : World) (a : Option Addr) (l : List Nat) : Prop := ∀ (j k : Nat), l[j]? = some k → ∃ g, a = some ⟨g, 0, none⟩ ∧ g < B ∧ w.cell? ⟨g, j, none⟩ = some (.int .i64 ((k : Int) - 40))
theorem IntsAt.below {B C : Nat} {w w' : World} {a : Option Addr} {l : List Nat} (h : IntsAt B w a l) (hb : Below C w w') (hc : B ≤ C) : IntsAt B w' a l := fun j k hj => by
  obtain ⟨g, ha, hg, c⟩ := h j k hj
  exact ⟨g, ha, hg, (hb.cell (p := ⟨g, _, none⟩) (Nat.lt_of_lt_of_le hg hc)).trans c⟩
theorem ints_of_own {w : World} {base e : Nat} {v : Value} {l : List Nat} (h : w.ownsRow base e 1 v l.length (intsL l)) : ∃ a cap, v = .slice a l.length cap ∧ IntsAt w.heap.size w a l := by
  have hx := h
  rcases h.2 with ⟨rfl, hl⟩ | ⟨g, cap, cur, rfl, hb, hg, _⟩
  · have : l = [] := List.eq_nil_of_length_eq_zero hl
    subst this
    exact ⟨none, 0, rfl, fun j k hj => by simp at hj⟩
  · refine ⟨some ⟨g, 0, none⟩, cap, rfl, fun j k hj => ⟨g, rfl, (Array.getElem?_eq_some_iff.1 hg).1, ?_⟩⟩
    have hj2 : j < l.length := (List.getElem?_eq_some_iff.1 hj).1
    rw [hx.cellAt j (by omega)]
    simp [intsL, hj]
set_option maxRecDepth 100000 in
set_option maxHeartbeats 1600000 in
theorem spec_l03Equal (l m : List Nat) (a a' : Option Addr) (cap cap' : Nat) (w : World) (h : IntsAt w.heap.size w a l) (h' : IntsAt w.heap.size w a' m) (hn : l.length ≤ 2000000) :
    Calls Try.prog 137 #[.slice a l.length cap, .slice a' m.length cap'] w fun e w' => e = .returned (.bool (decide (l = m))) ∧ Below w.heap.size w w' := by
  by_cases hlen : l.length = m.length
  · go_enter Try.func137, Try.ntmps137
    go_wp2_with fail
    go_loopw [5] (fun sk wr => ∃ i : Nat, i ≤ l.length ∧ sk = .int .i64 i ∧ l.take i = m.take i ∧ Below w.heap.size w wr) (fun k _ => l.length - (intOf k).toNat)
    case atStart => exact ⟨0, Nat.zero_le _, rfl, rfl, (by repeat (first | with_reducible exact Below.refl _ _ | with_reducible assumption | with_reducible refine bel_alloc ?_ _ | with_reducible refine bel_drew ?_ | with_reducible refine bel_drewN ?_ _ | with_reducible refine bel_set ?_ (by (try simp) <;> omega) _ | with_reducible refine bel_trans ?_ (by assumption)))⟩
    case round =>
      obtain ⟨i, hi, rfl, hall, hbl⟩ := hrel
      have HA := hide hall
      clear hall
      by_cases hy : i < l.length
      · have hy' : i < m.length := by omega
        obtain ⟨g, ha, hg, c0⟩ := h.below hbl (Nat.le_refl _) i l[i] (List.getElem?_eq_getElem hy)
        obtain ⟨g', ha', hg', c0'⟩ := h'.below hbl (Nat.le_refl _) i m[i] (List.getElem?_eq_getElem hy')
        subst ha
        subst ha'
        by_cases he : l[i] = m[i]
        · have hq : ((l[i] : Int) - 40 == (m[i] : Int) - 40) = true := by simp [he]
          go_wp2_with fail
          go_quiet (fail)
          go_wp2
          go_roundw
          case rel => exact ⟨i + 1, hy, by go_num, by rw [List.take_succ_eq_append_getElem hy, List.take_succ_eq_append_getElem hy', HA.out, he], (by repeat (first | with_reducible exact Below.refl _ _ | with_reducible assumption | with_reducible refine bel_alloc ?_ _ | with_reducible refine bel_drew ?_ | with_reducible refine bel_drewN ?_ _ | with_reducible refine bel_set ?_ (by (try simp) <;> omega) _ | with_reducible refine bel_trans ?_ (by assumption)))⟩
          case measure => simp [intOf]; omega
        · have hq : ((l[i] : Int) - 40 == (m[i] : Int) - 40) = false := by simp; omega
          have hne : ¬ l = m := fun e => by subst e; exact he rfl
          go_wp2_with fail
          go_quiet (fail)
          go_wp2
          go_ret
          exact ⟨by rw [decide_eq_false hne]; rfl, (by repeat (first | with_reducible exact Below.refl _ _ | with_reducible assumption | with_reducible refine bel_alloc ?_ _ | with_reducible refine bel_drew ?_ | with_reducible refine bel_drewN ?_ _ | with_reducible refine bel_set ?_ (by (try simp) <;> omega) _ | with_reducible refine bel_trans ?_ (by assumption)))⟩
      · go_wp2
        go_ret
        have := HA.out
        rw [List.take_of_length_le (by omega), List.take_of_length_le (by omega)] at this
        exact ⟨by simp [this], hbl⟩
  · have hne : ¬ l = m := fun e => hlen (by rw [e])
    go_enter Try.func137, Try.ntmps137
    go_wp2
    go_ret
    exact ⟨by simp [hne], (by repeat (first | with_reducible exact Below.refl _ _ | with_reducible assumption | with_reducible refine bel_alloc ?_ _ | with_reducible refine bel_drew ?_ | with_reducible refine bel_drewN ?_ _ | with_reducible refine bel_set ?_ (by (try simp) <;> omega) _ | with_reducible refine bel_trans ?_ (by assumption)))⟩
end Go.Proofs.Ytldgjocjcbhkmaa
