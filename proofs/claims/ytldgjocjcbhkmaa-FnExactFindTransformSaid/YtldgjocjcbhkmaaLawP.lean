/- Contracts of the laws' own helpers on lists of points. -/
import Derived.Test.YtldgjocjcbhkmaaFrameP
import Derived.Test.YtldgjocjcbhkmaaLawS
namespace Go.Proofs.Ytldgjocjcbhkmaa
open Go.RowKit
attribute [local go_sem low] cell_alloc_ite frozen_alloc_ite

def rowP : List (Int × Int) → List Value
  | [] => []
  | r :: l => .int .i64 r.1 :: .int .i64 r.2 :: rowP l
theorem rowP_length : ∀ l : List (Int × Int), (rowP l).length = l.length * 2
  | [] => rfl
  | _ :: l => by simp only [rowP, List.length_cons, rowP_length l]; omega
theorem rowP_get : ∀ (l : List (Int × Int)) (i : Nat) (h : i < l.length), (rowP l)[i * 2]? = some (.int .i64 l[i].1) ∧ (rowP l)[i * 2 + 1]? = some (.int .i64 l[i].2)
  | r :: l, 0, h => by simp [rowP]
  | r :: l, i + 1, h => by
    have := rowP_get l i (by simpa using h)
    rw [show (i + 1) * 2 = i * 2 + 1 + 1 from by omega]
    simpa [rowP] using this
def OwnPts (w : World) (base : Nat) (v : Value) (l : List (Int × Int)) : Prop := w.ownsRow base 111 2 v l.length (rowP l)
/-- The points lie, from the head of block g < B on, behind the address a. -/
def PtsAt (B : Nat) (w : World) (a : Option Addr) (l : List (Int × Int)) : Prop := ∀ i r, l[i]? = some r → ∃ g, a = some ⟨g, 0, none⟩ ∧ g < B ∧
  w.cell? ⟨g, i * 2, none⟩ = some (.int .i64 r.1) ∧ w.cell? ⟨g, i * 2 + 1, none⟩ = some (.int .i64 r.2)
theorem PtsAt.below {B C : Nat} {w w' : World} {a : Option Addr} {l : List (Int × Int)} (h : PtsAt B w a l) (hb : Below C w w') (hc : B ≤ C) : PtsAt B w' a l := fun i r hi => by
  obtain ⟨g, ha, hg, c0, c1⟩ := h i r hi
  exact ⟨g, ha, hg, (hb.cell (p := ⟨g, _, none⟩) (Nat.lt_of_lt_of_le hg hc)).trans c0, (hb.cell (p := ⟨g, _, none⟩) (Nat.lt_of_lt_of_le hg hc)).trans c1⟩
theorem PtsAt.kept {w w' : World} {a : Option Addr} {l : List (Int × Int)} (h : PtsAt w.heap.size w a l) (hb : Below w.heap.size w w') : PtsAt w'.heap.size w' a l := fun i r hi => by
  obtain ⟨g, ha, hg, c⟩ := (h.below hb (Nat.le_refl _)) i r hi
  exact ⟨g, ha, Nat.lt_of_lt_of_le hg hb.size, c⟩
theorem pts_at {w : World} {base n cap : Nat} {a : Option Addr} {l : List (Int × Int)} (h : OwnPts w base (.slice a n cap) l) : PtsAt w.heap.size w a l := by
  intro i r hi
  have hl : i < l.length := (List.getElem?_eq_some_iff.1 hi).1
  rcases h.2 with ⟨_, h0⟩ | ⟨g, cap', cur, hq, _, hg, _, _, _, htk⟩
  · omega
  · simp only [Value.slice.injEq] at hq
    obtain ⟨rfl, _, _⟩ := hq
    obtain ⟨r0, r1⟩ := rowP_get l i hl
    obtain rfl : l[i] = r := by rw [List.getElem?_eq_getElem hl] at hi; exact Option.some.inj hi
    have hc : ∀ j, j < l.length * 2 → w.cell? ⟨g, j, none⟩ = (rowP l)[j]? := fun j hj => by
      rw [cell_of_row w g j cur 111 (0, 0) hg, ← htk, List.getElem?_take, if_pos hj]
      simp
    exact ⟨g, rfl, (Array.getElem?_eq_some_iff.1 hg).1, (hc _ (by omega)).trans r0, (hc _ (by omega)).trans r1⟩
theorem point_info : (Try.prog.info? 111).map (fun i => (i.zero, i.size, i.bytes)) = some (some (.agg #[.int .i64 0, .int .i64 0]), 2, 16) := by kernel_rfl
def pcell (l : List (Int × Int)) (j : Nat) : Value := (rowP l).getD j undef
theorem rowP_rowF (l : List (Int × Int)) : rowP l = rowF (pcell l) (l.length * 2) := list_rowF _ (rowP_length l)
theorem pcell_at (l : List (Int × Int)) (i : Nat) (h : i < l.length) : pcell l (i * 2) = .int .i64 l[i].1 ∧ pcell l (i * 2 + 1) = .int .i64 l[i].2 := by
  obtain ⟨h0, h1⟩ := rowP_get l i h
  simp only [pcell, List.getD_eq_getElem?_getD, h0, h1, Option.getD_some, and_self]
theorem own_atP {w : World} {base e g n cap : Nat} {f : Nat → Value} (h : w.ownsRow base e 2 (.slice (some ⟨g, 0, none⟩) n cap) n (rowF f (n * 2))) (j : Nat) (hj : j < n * 2) : w.cell? ⟨g, j, none⟩ = some (f j) :=
  (h.cellAt j hj).trans (rowF_get f _ j hj)
theorem own_belowP {w w' : World} {base n cap g : Nat} {f : Nat → Value} {m : Nat} (h : w.ownsRow base 111 2 (.slice (some ⟨g, 0, none⟩) n cap) n (rowF f m)) (hb : Below w.heap.size w w') : w'.ownsRow base 111 2 (.slice (some ⟨g, 0, none⟩) n cap) n (rowF f m) := own_below h hb
theorem ownP_next {w w' : World} {base : Nat} {v : Value} {l : List (Int × Int)} (h : OwnPts w base v l) (hb : Below w.heap.size w w') : OwnPts w' base v l := own_below h hb
theorem ownP_base {w : World} {b b' : Nat} {v : Value} {l : List (Int × Int)} (h : OwnPts w b v l) (hb : b' ≤ b) : OwnPts w b' v l := by
  refine ⟨h.1, ?_⟩
  rcases h.2 with hn | ⟨g, cap, cur, rfl, hg, rest⟩
  · exact .inl hn
  · exact .inr ⟨g, cap, cur, rfl, Nat.le_trans hb hg, rest⟩
theorem inP_at {W w : World} {a : Option Addr} {l : List (Int × Int)} (h : InPts W.heap.size W a l) (hb : Below W.heap.size W w) : InPts w.heap.size w a l := (h.below hb (Nat.le_refl _)).mono hb.size
set_option maxRecDepth 100000 in
set_option maxHeartbeats 400000 in
theorem laws_szPointS_ok (n cap : Nat) (a : Option Addr) (m : Int) (hm : m ≤ 1048576) (hn : (n : Int) ≤ m) (w : World) : Calls Try.prog 69 #[.slice a n cap, .int .i64 m] w fun e w' => e = .returned (.int .i64 (m - (n : Int))) ∧ w = w' := by
  have h1 : ¬ (m - (n : Int) < 0) := by omega
  go_enter Try.func69, Try.ntmps69
  go_wp2
  go_ret
  exact ⟨rfl, rfl⟩
set_option maxRecDepth 100000 in
set_option maxHeartbeats 400000 in
theorem laws_szPointS_no (n cap : Nat) (a : Option Addr) (m : Int) (hm : 0 ≤ m ∧ m ≤ 1048576) (hn : ¬ (n : Int) ≤ m) (hl : n ≤ maxLen) (w : World) : Calls Try.prog 69 #[.slice a n cap, .int .i64 m] w fun e w' => e = .returned (.int .i64 (-1)) ∧ w = w' := by
  unfold maxLen at hl
  obtain ⟨hm0, hm1⟩ := hm
  have h1 : m - (n : Int) < 0 := by omega
  go_enter Try.func69, Try.ntmps69
  go_wp2
  go_ret
  exact ⟨rfl, rfl⟩
set_option maxRecDepth 100000 in
set_option maxHeartbeats 1600000 in
theorem laws_toPointS (l : List (Int × Int)) (a : Option Addr) (cap : Nat) (w : World) (h : InPts w.heap.size w a l) (hn : l.length ≤ 1048576) : Calls Try.prog 71 #[.slice a l.length cap] w
    fun e w' => ∃ a' cap', e = .returned (.slice a' l.length cap') ∧ OwnPts w' w.heap.size (.slice a' l.length cap') l ∧ Below w.heap.size w w' := by
  obtain ⟨ii, hii, hiz⟩ := Option.map_eq_some_iff.1 point_info
  simp only [Prod.mk.injEq] at hiz
  obtain ⟨hz, hsz, hby⟩ := hiz
  obtain ⟨w0, hrun, hown0, hg0⟩ := run_make_full (P := Try.prog) w w.heap.size 67 111 ii _ 2 Try.underlying67 hii hz hsz .i64 .i64 l.length (by rw [hby]; omega) (by unfold maxLen; omega) (Nat.le_refl _)
  clear hz hsz hby hii
  go_enter Try.func71, Try.ntmps71
  go_wp2_with fail
  go_loopw [4] (fun s4 wr => ∃ (i : Nat) (f : Nat → Value), i ≤ l.length ∧ s4 = .int .i64 i ∧ wr.ownsRow w.heap.size 111 2 (.slice (some ⟨w.heap.size, 0, none⟩) l.length l.length) l.length (rowF f (l.length * 2)) ∧ (∀ j, j < i * 2 → f j = pcell l j) ∧ Below w.heap.size w wr) (fun s4 _ => l.length - (intOf s4).toNat)
  case atStart => exact ⟨0, _, Nat.zero_le _, rfl, by rw [← list_rowF _ hown0.1]; exact hown0, fun j hj => absurd hj (by omega), Below.grown (Below.refl _ _) hg0 (Nat.le_refl _) (by simp)⟩
  case round =>
    obtain ⟨i, f, hi, rfl, hown, hf, hbl⟩ := hrel
    have HF := hide hf
    clear hf hown0 hg0
    by_cases hy : i < l.length
    · obtain ⟨g, off, ha, hg, c0, c1⟩ := h.below hbl (Nat.le_refl _) i l[i] (List.getElem?_eq_getElem hy)
      subst ha
      go_wp2_with (go_at_call 128; refine (laws_toPoint _ _ _).mono ?_; rintro e w1 ⟨rfl, hb1⟩; have ho1 := own_belowP hown hb1; have d0 := own_atP ho1 (i * 2) (by omega); have d1 := own_atP ho1 (i * 2 + 1) (by omega); have f0 := ho1.frozenAt (i * 2); have f1 := ho1.frozenAt (i * 2 + 1))
      go_roundw
      case rel =>
        have s1 := ((ho1.stored (i * 2) (.int .i64 l[i].1)).1.stored (i * 2 + 1) (.int .i64 l[i].2)).1
        rw [rowF_set, rowF_set] at s1
        refine ⟨i + 1, _, hy, by go_num, s1, fun j hj => ?_, ?_⟩
        · obtain ⟨r0, r1⟩ := pcell_at l i hy
          by_cases e1 : j = i * 2 + 1
          · rw [if_pos e1, e1, r1]
          rw [if_neg e1]
          by_cases e0 : j = i * 2
          · rw [if_pos e0, e0, r0]
          rw [if_neg e0]
          exact HF.out j (by omega)
        · exact ((hbl.trans (hb1.mono hbl.size)).setCell (Nat.le_refl _) _).setCell (Nat.le_refl _) _
      case measure => simp [intOf]; omega
    · go_wp2_with fail
      go_ret
      refine ⟨_, _, rfl, ?_, hbl⟩
      rw [OwnPts, rowP_rowF, ← rowF_congr fun j hj => HF.out j (by omega)]
      exact hown
set_option maxRecDepth 100000 in
set_option maxHeartbeats 1600000 in
theorem laws_eqPointS (l : List (Int × Int)) (a a' : Option Addr) (cap cap' : Nat) (w : World) (h : PtsAt w.heap.size w a l) (h' : PtsAt w.heap.size w a' l) (hn : l.length ≤ 2000000) :
    Calls Try.prog 74 #[.slice a l.length cap, .slice a' l.length cap'] w fun e w' => e = .returned (.bool true) ∧ Below w.heap.size w w' := by
  go_enter Try.func74, Try.ntmps74
  go_wp2_with fail
  go_loopw [5] (fun sk wr => ∃ i : Nat, i ≤ l.length ∧ sk = .int .i64 i ∧ Below w.heap.size w wr) (fun k _ => l.length - (intOf k).toNat)
  case atStart => exact ⟨0, Nat.zero_le _, rfl, (by repeat (first | with_reducible exact Below.refl _ _ | with_reducible assumption | with_reducible refine bel_alloc ?_ _ | with_reducible refine bel_drew ?_ | with_reducible refine bel_drewN ?_ _ | with_reducible refine bel_set ?_ (by (try simp) <;> omega) _ | with_reducible refine bel_trans ?_ (by assumption)))⟩
  case round =>
    obtain ⟨i, hi, rfl, hbl⟩ := hrel
    by_cases hy : i < l.length
    · obtain ⟨g, ha, hg, c0, c1⟩ := h.below hbl (Nat.le_refl _) i l[i] (List.getElem?_eq_getElem hy)
      obtain ⟨g', ha', hg', c0', c1'⟩ := h'.below hbl (Nat.le_refl _) i l[i] (List.getElem?_eq_getElem hy)
      subst ha
      subst ha'
      have hx0 : (0 : Int) ≤ (i : Int) := Int.natCast_nonneg _
      have hx1 : (i : Int) < (l.length : Int) := by omega
      go_wp2_with fail
      go_region_held3 (fun w' => w'.cell? ⟨g, i * 2, none⟩ = some (.int .i64 l[i].1) ∧ w'.cell? ⟨g, i * 2 + 1, none⟩ = some (.int .i64 l[i].2) ∧ w'.cell? ⟨g', i * 2, none⟩ = some (.int .i64 l[i].1) ∧ w'.cell? ⟨g', i * 2 + 1, none⟩ = some (.int .i64 l[i].2) ∧ Below w.heap.size w w')
        (first | (go_split_ands; ((repeat' apply And.intro) <;> first | exact keep_cell hb (by assumption) | exact bel_trans (by assumption) hb | exact bel_trans (bel_drew (by assumption)) hb)) | ((repeat' apply And.intro) <;> first | (simp [go_sem, *]; done) | exact (by repeat (first | with_reducible exact Below.refl _ _ | with_reducible assumption | with_reducible refine bel_alloc ?_ _ | with_reducible refine bel_drew ?_ | with_reducible refine bel_drewN ?_ _ | with_reducible refine bel_set ?_ (by (try simp) <;> omega) _ | with_reducible refine bel_trans ?_ (by assumption))))) ((go_at_call 132; refine (laws_eqPoint _ _ _).mono ?_; rintro e w1 ⟨rfl, hb⟩))
      all_goals
        go_wp2_with fail
        go_roundw
        case rel => exact ⟨i + 1, hy, by go_num, (by repeat (first | with_reducible exact Below.refl _ _ | with_reducible assumption | with_reducible refine bel_alloc ?_ _ | with_reducible refine bel_drew ?_ | with_reducible refine bel_drewN ?_ _ | with_reducible refine bel_set ?_ (by (try simp) <;> omega) _ | with_reducible refine bel_trans ?_ (by assumption)))⟩
        case measure => simp [intOf]; omega
    · go_wp2_with fail
      go_ret
      exact ⟨rfl, hbl⟩
end Go.Proofs.Ytldgjocjcbhkmaa
