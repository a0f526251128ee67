/- Contracts: the unit cells from the edges (the program). -/
import Derived.Test.YtldgjocjcbhkmabEdgQ
import Derived.Test.YtldgjocjcbhkmabEdg7
import Derived.StillTailTactics
namespace Go.Proofs.Ytldgjocjcbhkmab
open Go.RowKit
attribute [local go_sem high] run_max2 run_min2 run_max3 run_max4
attribute [local go_sem low] cell_alloc_ite frozen_alloc_ite

def updE (f : Grid) (i k : Nat) (v : Bool) : Grid := fun a c => if a = i ∧ c = k then v else f a c
theorem row_updE {w : World} {b t : Nat} {f : Grid} (h : w.rowIs b t 6400 (gv f)) {i k : Nat} (hk : k < 80) (v : Bool) : (w.setCell ⟨b, i * 80 + k, none⟩ (.bool v)).rowIs b t 6400 (gv (updE f i k v)) :=
  (h.set (i * 80 + k) (.bool v)).congr fun n hn => by
    by_cases hq : n = i * 80 + k
    · rw [if_pos hq]; simp only [gv, updE]; rw [if_pos ⟨by omega, by omega⟩]
    · rw [if_neg hq]; simp only [gv, updE]; rw [if_neg (by omega)]
theorem gv_congr {f g : Grid} (h : GEq f g) (n : Nat) (hn : n < 6400) : gv f n = gv g n := by
  simp only [gv]
  rw [h (n / 80) (n % 80) (by omega) (by omega)]
/-- The sides of r up to the row j. -/
def partV (r : Rc) (j : Nat) : Grid := fun y x => decide (r.x0 = (x : Int) - 40) && (decide (min r.y0 r.y1 ≤ (y : Int) - 40) && decide (y < j))
def xorG (f g : Grid) : Grid := fun y x => f y x != g y x
/-- The first p cells are those of g. -/
def mixG (g h : Grid) (p : Nat) : Grid := fun i k => if i * 80 + k < p then g i k else h i k
theorem hits_take {l : List Rc} {i : Nat} (h : i < l.length) (y x : Nat) : hits (l.take (i + 1)) y x = xorG (hits (l.take i)) (hitV l[i]) y x := by
  rw [List.take_succ_eq_append_getElem h, hits_append]
  simp only [hits, xorG, List.foldr_cons, List.foldr_nil, Bool.bne_false]
theorem part_next {r : Rc} {j k : Nat} (hk : r.x0 = (k : Int) - 40) (hj : min r.y0 r.y1 ≤ (j : Int) - 40) (u v : Nat) : partV r (j + 1) u v = (partV r j u v || decide (u = j ∧ v = k)) := by
  rw [Bool.eq_iff_iff]
  simp only [partV, Bool.or_eq_true, Bool.and_eq_true, decide_eq_true_eq]
  omega
theorem part_at (r : Rc) (j k : Nat) : partV r j j k = false := by simp [partV]
theorem part_all {r : Rc} {j : Nat} (h : max r.y0 r.y1 = (j : Int) - 40) (u v : Nat) : partV r j u v = hitV r u v := by
  rw [Bool.eq_iff_iff]
  simp only [partV, hitV, Bool.and_eq_true, decide_eq_true_eq]
  omega
set_option maxRecDepth 100000 in
set_option maxHeartbeats 3200000 in
theorem impl_parity (g : Grid) (l : List Rc) (a : Option Addr) (cap : Nat) (w : World) (hat : RectsAt w.heap.size w a l) (hn : l.length ≤ 1000000)
    (hval : ∀ r ∈ l, vEdge r.x0 r.y0 r.x1 r.y1 = true) (hh : ∀ y x, hits l y x = hits (edgesL g) y x) :
    Calls Try.prog 33 #[.slice a l.length cap] w fun e w' => ∃ b, e = .returned (.pointer (some ⟨b, 0, none⟩)) ∧ w.heap.size ≤ b ∧ w'.rowIs b 69 6400 (gv g) ∧ Below w.heap.size w w' := by
  have HVAL := hide hval
  have HH := hide hh
  clear hval hh
  go_enter Try.func33, Try.ntmps33
  go_upto_region 2 with fail
  have hz := zero_row w
  go_wp2_with fail
  go_loopw [13] (fun sk wr => ∃ i : Nat, i ≤ l.length ∧ sk = .int .i64 i ∧ wr.rowIs w.heap.size 69 6400 (gv (hits (l.take i))) ∧ Below w.heap.size w wr) (fun k _ => l.length - (intOf k).toNat)
  case atStart => exact ⟨0, Nat.zero_le _, rfl, hz, (by repeat (first | with_reducible exact Below.refl _ _ | with_reducible assumption | with_reducible refine bel_alloc ?_ _ | with_reducible refine bel_drew ?_ | with_reducible refine bel_drewN ?_ _ | with_reducible refine bel_set ?_ (by (try simp) <;> omega) _ | with_reducible refine bel_trans ?_ (by assumption)))⟩
  case round =>
    obtain ⟨i, hi, rfl, hrow, hbl⟩ := hrel
    by_cases hy : i < l.length
    · obtain ⟨g0, ha, hg, c0, c1, c2, c3⟩ := hat.below hbl (Nat.le_refl _) i l[i] (List.getElem?_eq_getElem hy)
      subst ha
      have hx1 : (i : Int) < (l.length : Int) := by omega
      obtain ⟨r, hr⟩ : ∃ r, r = l[i] := ⟨_, rfl⟩
      have hv := HVAL.out l[i] (List.getElem_mem hy)
      rw [← hr] at c0 c1 c2 c3 hv
      have HR := hide hr
      clear hr
      obtain ⟨⟨⟨v1, v2⟩, v3, v4⟩, ⟨⟨v5, v6⟩, v7, v8⟩, _⟩ := vEdge_iff.1 hv
      obtain ⟨k, hk⟩ : ∃ k : Nat, r.x0 = (k : Int) - 40 := ⟨(r.x0 + 40).toNat, by omega⟩
      obtain ⟨j0, hj0⟩ : ∃ j : Nat, min r.y0 r.y1 = (j : Int) - 40 := ⟨(min r.y0 r.y1 + 40).toNat, by omega⟩
      obtain ⟨j1, hj1⟩ : ∃ j : Nat, max r.y0 r.y1 = (j : Int) - 40 := ⟨(max r.y0 r.y1 + 40).toNat, by omega⟩
      have HK := hide hk
      have HJ0 := hide hj0
      have HJ1 := hide hj1
      have hj8 : j0 ≤ j1 ∧ j1 ≤ 80 ∧ k ≤ 80 := by omega
      obtain ⟨hj81, hj82, hk8⟩ := hj8
      rw [hk] at c0
      have hsz := hrow.lt
      clear hk hj0 hj1 v1 v2 v3 v4 v5 v6 v7 v8 hv
      go_wp2_with fail
      go_loopw [6] (fun sk wr' => ∃ (j : Nat), j0 ≤ j ∧ j ≤ j1 ∧ sk = .int .i64 ((j : Int) - 40) ∧ wr'.rowIs w.heap.size 69 6400 (gv (xorG (hits (l.take i)) (partV r j))) ∧
          wr'.cell? ⟨wr.heap.size, 0, none⟩ = some (.int .i64 ((k : Int) - 40)) ∧ wr'.cell? ⟨wr.heap.size, 1, none⟩ = some (.int .i64 r.y0) ∧ wr'.cell? ⟨wr.heap.size, 2, none⟩ = some (.int .i64 r.x1) ∧ wr'.cell? ⟨wr.heap.size, 3, none⟩ = some (.int .i64 r.y1) ∧ wr.heap.size < wr'.heap.size ∧ Below w.heap.size w wr') (fun k _ => (41 - intOf k).toNat)
      case atStart =>
        refine ⟨j0, Nat.le_refl _, hj81, by rw [← HJ0.out], ((hrow.alloc _)).congr (gv_congr fun u v hu hv => ?_), by simp [go_sem], by simp [go_sem], by simp [go_sem], by simp [go_sem], by simp, (by repeat (first | with_reducible exact Below.refl _ _ | with_reducible assumption | with_reducible refine bel_alloc ?_ _ | with_reducible refine bel_drew ?_ | with_reducible refine bel_drewN ?_ _ | with_reducible refine bel_set ?_ (by (try simp) <;> omega) _ | with_reducible refine bel_trans ?_ (by assumption)))⟩
        have hjj := HJ0.out
        have : partV r j0 u v = false := by
          rw [Bool.eq_false_iff]
          unfold partV
          intro h
          simp only [Bool.and_eq_true, decide_eq_true_eq] at h
          omega
        simp [xorG, this]
      case round =>
        obtain ⟨j, hjl, hjh, rfl, hrow2, d0, d1, d2, d3, hz2, hbl2⟩ := hrel
        clear hrow c0 c1 c2 c3
        by_cases hjt : (j : Int) - 40 < max r.y0 r.y1
        · have hjn : j < j1 := by have := HJ1.out; omega
          by_cases hkx : (k : Int) - 40 < 40
          · have hk80 : k < 80 := by omega
            have hcell := hrow2.cell (i := j * 80 + k) (by omega)
            have hfro := hrow2.frozen (j * 80 + k)
            have hne : wr.heap.size ≠ w.heap.size := by omega
            rw [gv_at _ hk80] at hcell
            obtain ⟨q, hq⟩ : ∃ q, q = xorG (hits (l.take i)) (partV r j) j k := ⟨_, rfl⟩
            rw [← hq] at hcell
            have HQ := hide hq
            clear hq
            have hkI : (0 : Int) ≤ (k : Int) := Int.natCast_nonneg _
            have hkI8 : (k : Int) < 80 := by omega
            have hjI : (0 : Int) ≤ (j : Int) := Int.natCast_nonneg _
            have hjI8 : (j : Int) < 80 := by omega
            have hwk : IntKind.i64.wrap (k : Int) = (k : Int) := IntWalk.i64_in _ (by omega)
            have hwj : IntKind.i64.wrap (j : Int) = (j : Int) := IntWalk.i64_in _ (by omega)
            go_wp2_with fail
            go_still_tail 20, (by kernel_rfl)
            try change wpList _ _ _ _ _ (World.drew _)
            go_wp2_with fail
            go_roundw
            case rel =>
              refine ⟨j + 1, by omega, by omega, by go_num, ((row_updE hrow2 hk80 (!q)).congr (gv_congr fun u v hu hv => ?_)).drew, by simp [go_sem, *], by simp [go_sem, *], by simp [go_sem, *], by simp [go_sem, *], by simp; omega, (hbl2.setCell (Nat.le_refl _) _).drew⟩
              have hp := part_next (r := r) (j := j) HK.out (by have := HJ0.out; omega) u v
              have hqo := HQ.out
              simp only [updE, xorG] at hqo ⊢
              rw [hp]
              by_cases e : u = j ∧ v = k
              · obtain ⟨rfl, rfl⟩ := e
                rw [if_pos ⟨rfl, rfl⟩, hqo, part_at]
                simp
              · rw [if_neg e]
                have : decide (u = j ∧ v = k) = false := by simpa using e
                rw [this, Bool.or_false]
            case measure => simp [intOf]; omega
          · have hk80 : k = 80 := by omega
            go_wp2_with fail
            go_roundw
            case rel =>
              refine ⟨j + 1, by omega, by omega, by go_num, hrow2.congr (gv_congr fun u v hu hv => ?_), d0, d1, d2, d3, hz2, hbl2⟩
              have hp := part_next (r := r) (j := j) HK.out (by have := HJ0.out; omega) u v
              have : decide (u = j ∧ v = k) = false := by simp; omega
              simp only [xorG]
              rw [hp, this, Bool.or_false]
            case measure => simp [intOf]; omega
        · have hjn : j = j1 := by have := HJ1.out; omega
          subst hjn
          go_wp2_with fail
          go_roundw
          case rel =>
            refine ⟨i + 1, by omega, by go_num, hrow2.congr (gv_congr fun u v hu hv => ?_), hbl2⟩
            rw [hits_take hy, ← HR.out]
            simp only [xorG]
            rw [part_all HJ1.out]
          case measure => simp [intOf]; omega
    · obtain rfl : i = l.length := by omega
      rw [List.take_length] at hrow
      have hx1 : ¬ (l.length : Int) < (l.length : Int) := by omega
      have hrow' := hrow.congr (gv_congr (g := mixG g (hits (edgesL g)) 0) fun u v hu hv => by simp [mixG, HH.out])
      have hsz := hrow.lt
      clear hrow
      go_wp2_with fail
      go_loopw [55] (fun sk wr' => ∃ y : Nat, y ≤ 80 ∧ sk = .int .i64 y ∧ wr'.rowIs w.heap.size 69 6400 (gv (mixG g (hits (edgesL g)) (y * 80))) ∧ Below w.heap.size w wr') (fun k _ => 80 - (intOf k).toNat)
      case atStart => exact ⟨0, Nat.zero_le _, rfl, hrow', hbl⟩
      case round =>
        obtain ⟨y, hy8, rfl, hrow1, hbl1⟩ := hrel
        clear hrow'
        by_cases hyt : (y : Int) < 80
        · have hy80 : y < 80 := by omega
          go_wp2_with fail
          go_loopw [8] (fun sk wr' => ∃ m : Nat, 1 ≤ m ∧ m ≤ 80 ∧ sk = .int .i64 (m : Int) ∧ wr'.rowIs w.heap.size 69 6400 (gv (mixG g (hits (edgesL g)) (y * 80 + m))) ∧ Below w.heap.size w wr') (fun k _ => 81 - (intOf k).toNat)
          case atStart =>
            refine ⟨1, Nat.le_refl _, by omega, rfl, hrow1.congr (gv_congr fun u v hu hv => ?_), hbl1⟩
            simp only [mixG]
            by_cases e : u * 80 + v = y * 80 + 0
            · have h1 : u = y := by omega
              have h2 : v = 0 := by omega
              subst h1 h2
              rw [if_neg (by omega), if_pos (by omega), hits_first g hy80]
            · by_cases e2 : u * 80 + v < y * 80
              · rw [if_pos e2, if_pos (by omega)]
              · rw [if_neg e2, if_neg (by omega)]
          case round =>
            obtain ⟨m, hm1, hm8, rfl, hrow2, hbl2⟩ := hrel
            by_cases hxt : (m : Int) < 80
            · have hx80 : m < 80 := by omega
              obtain ⟨x, hx⟩ : ∃ x, m = x + 1 := ⟨m - 1, by omega⟩
              have hx8 : x < 80 := by omega
              have hcell := hrow2.cell (i := y * 80 + m) (by omega)
              have hcell0 := hrow2.cell (i := y * 80 + x) (by omega)
              have hfro := hrow2.frozen (y * 80 + m)
              rw [gv_at _ hx80] at hcell
              rw [gv_at _ hx8] at hcell0
              have hnx := hits_next g (x := x) hy80 (by omega)
              rw [← hx] at hnx
              simp only [mixG] at hcell hcell0
              rw [if_neg (by omega)] at hcell
              rw [if_pos (by omega)] at hcell0
              have hmI : (0 : Int) ≤ (m : Int) := Int.natCast_nonneg _
              have hxI : (0 : Int) ≤ (x : Int) := Int.natCast_nonneg _
              have hxI8 : (x : Int) < 80 := by omega
              have hyI : (0 : Int) ≤ (y : Int) := Int.natCast_nonneg _
              have hw1 : IntKind.i64.wrap ((m : Int) - 1) = (x : Int) := by
                rw [show (m : Int) - 1 = (x : Int) from by omega]
                exact IntWalk.i64_in _ (by omega)
              generalize hits (edgesL g) y m = p at hcell hnx
              generalize hgq : g y x = q at hcell0 hnx
              have HNX := hide hnx
              have HX := hide hx
              clear hrow1 hnx hgq hx
              go_wp2_with fail
              go_still_tail 22, (by kernel_rfl)
              try change wpList _ _ _ _ _ (World.drew _)
              go_wp2_with fail
              go_roundw
              case rel =>
                refine ⟨m + 1, by omega, hx80, by go_num, ((row_updE hrow2 hx80 (p != q)).congr (gv_congr fun u v hu hv => ?_)).drew, (hbl2.setCell (Nat.le_refl _) _).drew⟩
                simp only [updE, mixG]
                by_cases e : u = y ∧ v = m
                · obtain ⟨rfl, rfl⟩ := e
                  rw [if_pos ⟨rfl, rfl⟩, if_pos (by omega), HNX.out]
                · rw [if_neg e]
                  by_cases e2 : u * 80 + v < y * 80 + m
                  · rw [if_pos e2, if_pos (by omega)]
                  · rw [if_neg e2, if_neg (by omega)]
              case measure => simp [intOf]; omega
            · obtain rfl : m = 80 := by omega
              clear hrow1
              go_wp2_with fail
              go_roundw
              case rel =>
                refine ⟨y + 1, by omega, by go_num, hrow2.congr (gv_congr fun u v hu hv => ?_), hbl2⟩
                simp only [mixG]
                rw [show y * 80 + 80 = (y + 1) * 80 from by omega]
              case measure => simp [intOf]; omega
        · obtain rfl : y = 80 := by omega
          go_wp2_with fail
          go_ret
          refine ⟨_, rfl, Nat.le_refl _, hrow1.congr (gv_congr fun u v hu hv => ?_), hbl1⟩
          simp only [mixG]
          rw [if_pos (by omega)]
end Go.Proofs.Ytldgjocjcbhkmab
