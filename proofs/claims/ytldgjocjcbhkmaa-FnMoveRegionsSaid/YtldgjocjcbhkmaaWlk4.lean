/- Contracts: the runs of a row. -/
import Derived.Test.YtldgjocjcbhkmaaWlk3
import Derived.Laws.OwnMore
namespace Go.Proofs.Ytldgjocjcbhkmaa
open Go.RowKit
attribute [local go_sem low] cell_alloc_ite frozen_alloc_ite

def intsL (l : List Nat) : List Value := l.map fun (k : Nat) => .int .i64 ((k : Int) - 40)
theorem hasI_at {g : Grid} {i k : Nat} (hi : i < 80) : hasI g ((k : Int) - 40) ((i : Int) - 40) = atR (g i) k := by
  unfold hasI atR
  rw [Bool.eq_iff_iff]
  simp only [Bool.and_eq_true, inR_iff, decide_eq_true_eq, show ((i : Int) - 40 + 40).toNat = i from by omega, show ((k : Int) - 40 + 40).toNat = k from by omega]
  constructor
  · rintro ⟨⟨h1, h2⟩, h3⟩; exact ⟨by omega, h3⟩
  · rintro ⟨h1, h3⟩; exact ⟨⟨by omega, by omega⟩, h3⟩
theorem hasI_prev {g : Grid} {i k : Nat} (hi : i < 80) : hasI g ((k : Int) - 40 - 1) ((i : Int) - 40) = prevR (g i) k := by
  cases k with
  | zero =>
    unfold hasI prevR
    rw [Bool.eq_iff_iff]
    simp [inR]
  | succ k =>
    rw [prevR_succ, ← hasI_at hi, show (((k + 1 : Nat) : Int) - 40 - 1) = (k : Int) - 40 from by omega]
theorem grown_below {w0 w w' : World} {v : Value} {n size e : Nat} {xs : List Value} (h : Below w0.heap.size w0 w) (ho : w.ownsRow w0.heap.size e size v n xs) (hg : w.grownBy w' v.ownBlock) : Below w0.heap.size w0 w' :=
  ⟨hg.os.trans h.os, hg.tape.trans h.tape, hg.output.trans h.output, Nat.le_trans h.size hg.size, fun k hk => (hg.block k (Nat.lt_of_lt_of_le hk h.size) (fun he => absurd (ho.lt k he.symm).1 (by omega))).trans (h.block k hk)⟩
theorem changesTo_len (p : Nat → Bool) : ∀ k, (changesTo p k).length ≤ k
  | 0 => Nat.le_refl _
  | k + 1 => by
    have := changesTo_len p k
    rw [changesTo, List.length_append]
    split <;> simp <;> omega
theorem int_info : (Try.prog.info? 2).map (fun i => (i.zero, i.size, i.bytes)) = some (some (.int .i64 0), 1, 8) := by kernel_rfl
set_option maxRecDepth 100000 in
set_option maxHeartbeats 1600000 in
theorem spec_l03Runs (g : Grid) (b t i : Nat) (hi : i < 80) (w : World) (hrow : w.rowIs b t 6400 (gv g)) : Calls Try.prog 136 #[.slice (some ⟨b, 0, none⟩) 6400 6400, .int .i64 ((i : Int) - 40)] w
    fun e w' => ∃ v, e = .returned v ∧ w'.ownsRow w.heap.size 2 1 v (changes (g i)).length (intsL (changes (g i))) ∧ Below w.heap.size w w' := by
  have hb0 := hrow.lt
  go_enter Try.func136, Try.ntmps136
  go_wp2_with fail
  go_loopw [5, 6] (fun sv sk wr => ∃ k : Nat, k ≤ 81 ∧ sk = .int .i64 ((k : Int) - 40) ∧ wr.ownsRow w.heap.size 2 1 sv (changesTo (g i) k).length (intsL (changesTo (g i) k)) ∧ Below w.heap.size w wr) (fun _ k _ => (41 - intOf k).toNat)
  case atStart => exact ⟨0, by omega, rfl, World.ownsRow_lit (base := w.heap.size) (e := 2) (size := 1) w #[] 0 (Nat.le_refl _) (by simp [maxLen]) rfl, (by repeat (first | with_reducible exact Below.refl _ _ | with_reducible assumption | with_reducible refine bel_alloc ?_ _ | with_reducible refine bel_drew ?_ | with_reducible refine bel_drewN ?_ _ | with_reducible refine bel_set ?_ (by (try simp) <;> omega) _ | with_reducible refine bel_trans ?_ (by assumption)))⟩
  case round =>
    obtain ⟨k, hk, rfl, hown, hbl⟩ := hrel
    have hrow1 : _root_.Go.World.rowIs _ b t 6400 (gv g) := hrow.of_block (hbl.block b hb0)
    by_cases hy : k ≤ 80
    · have h1 := hasI_at (g := g) (k := k) hi
      have h2 := hasI_prev (g := g) (k := k) hi
      have hx : changesTo (g i) (k + 1) = changesTo (g i) k ++ (if atR (g i) k != prevR (g i) k then [k] else []) := rfl
      obtain ⟨ii, hii, hiz⟩ := Option.map_eq_some_iff.1 int_info
      simp only [Prod.mk.injEq] at hiz
      obtain ⟨hz, hsz, hby⟩ := hiz
      have hlen : (changesTo (g i) k).length ≤ k := changesTo_len _ _
      by_cases hc : atR (g i) k = prevR (g i) k
      · have hc2 : (atR (g i) k == prevR (g i) k) = true := by simp [hc]
        rw [if_neg (by simp [hc]), List.append_nil] at hx
        go_wp2_with (go_at_call 147; refine (spec_l03Has g _ _ _ _ _ hrow1).mono ?_; rintro e w1 ⟨rfl, rfl⟩)
        go_roundw
        case rel => exact ⟨k + 1, by omega, by go_num, by rw [hx]; exact hown, hbl⟩
        case measure => simp [intOf]; omega
      · have hc2 : (atR (g i) k == prevR (g i) k) = false := by simp [hc]
        rw [if_pos (by simp [hc])] at hx
        go_wp2_with (first
          | (go_at_call 147; refine (spec_l03Has g _ _ _ _ _ hrow1).mono ?_; rintro e w1 ⟨rfl, rfl⟩)
          | (at_builtin; refine wpList_append_own _ rfl _ _ 119 rfl w.heap.size 2 ii (.int .i64 0) 1 8 Try.underlying119 hii hz hsz hby rfl (by decide) _ _ _ rfl (hown.alloc _) ⟨wr.heap.size, 0, none⟩ 1 1 [.int .i64 ((k : Int) - 40)] rfl rfl (cell_one_new _ _ _) (fun x hx => by simp at hx; subst hx; rfl) (by unfold maxLen; omega) (by omega) (by have := hbl.size; simp; omega) ?_; intro v' w2 ho2 hg2 _))
        go_roundw
        case rel =>
          refine ⟨k + 1, by omega, by go_num, ?_, grown_below (hbl.alloc hbl.size _) (hown.alloc _) hg2⟩
          rw [hx, List.length_append, intsL, List.map_append]
          exact ho2
        case measure => simp [intOf]; omega
    · go_wp2
      go_ret
      refine ⟨_, rfl, ?_, hbl⟩
      rw [show k = 81 from by omega] at hown
      exact hown
end Go.Proofs.Ytldgjocjcbhkmaa
