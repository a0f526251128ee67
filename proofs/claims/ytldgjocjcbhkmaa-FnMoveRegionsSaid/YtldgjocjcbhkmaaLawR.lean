/- Contracts of the laws' own helpers on lists of rectangles: copies, comparisons, marks. -/
import Derived.Test.YtldgjocjcbhkmaaWlk9
import Derived.Deep.RegionHeld3
namespace Go.Proofs.Ytldgjocjcbhkmaa
open Go.RowKit
attribute [local go_sem low] cell_alloc_ite frozen_alloc_ite

/-- The list lies behind the slice's address a, wherever, below block B. -/
def InRects (B : Nat) (w : World) (a : Option Addr) (l : List Rc) : Prop := ∀ i r, l[i]? = some r → ∃ g off, a = some ⟨g, off, none⟩ ∧ g < B ∧
  w.cell? ⟨g, off + i * 4, none⟩ = some (.int .i64 r.x0) ∧ w.cell? ⟨g, off + i * 4 + 1, none⟩ = some (.int .i64 r.y0) ∧ w.cell? ⟨g, off + i * 4 + 2, none⟩ = some (.int .i64 r.x1) ∧ w.cell? ⟨g, off + i * 4 + 3, none⟩ = some (.int .i64 r.y1)
theorem InRects.below {B C : Nat} {w w' : World} {a : Option Addr} {l : List Rc} (h : InRects B w a l) (hb : Below C w w') (hc : B ≤ C) : InRects B w' a l := fun i r hi => by
  obtain ⟨g, off, ha, hg, c0, c1, c2, c3⟩ := h i r hi
  exact ⟨g, off, ha, hg, (hb.cell (p := ⟨g, _, none⟩) (Nat.lt_of_lt_of_le hg hc)).trans c0, (hb.cell (p := ⟨g, _, none⟩) (Nat.lt_of_lt_of_le hg hc)).trans c1,
    (hb.cell (p := ⟨g, _, none⟩) (Nat.lt_of_lt_of_le hg hc)).trans c2, (hb.cell (p := ⟨g, _, none⟩) (Nat.lt_of_lt_of_le hg hc)).trans c3⟩
theorem InRects.mono {B C : Nat} {w : World} {a : Option Addr} {l : List Rc} (h : InRects B w a l) (hc : B ≤ C) : InRects C w a l := fun i r hi => by
  obtain ⟨g, off, ha, hg, c⟩ := h i r hi
  exact ⟨g, off, ha, Nat.lt_of_lt_of_le hg hc, c⟩

/-! ### rows of cells by a function -/
def rowF (f : Nat → Value) (m : Nat) : List Value := (List.range m).map f
theorem rowF_get (f : Nat → Value) (m j : Nat) (h : j < m) : (rowF f m)[j]? = some (f j) := by simp [rowF, h]
theorem rowF_set (f : Nat → Value) (m j : Nat) (u : Value) : (rowF f m).set j u = rowF (fun k => if k = j then u else f k) m := by
  apply List.ext_getElem?
  intro k
  rw [List.getElem?_set]
  by_cases hk : j = k
  · subst hk
    by_cases hm : j < m <;> simp [rowF, hm]
  · rw [if_neg hk]
    have : ¬ k = j := fun e => hk e.symm
    by_cases hm : k < m <;> simp [rowF, hm, this]
theorem rowF_congr {f g : Nat → Value} {m : Nat} (h : ∀ j, j < m → f j = g j) : rowF f m = rowF g m := by
  unfold rowF
  exact List.map_congr_left fun j hj => h j (List.mem_range.1 hj)
def rcell (l : List Rc) (j : Nat) : Value := (rowL l).getD j undef
theorem rowL_rowF (l : List Rc) : rowL l = rowF (rcell l) (l.length * 4) := by
  apply List.ext_getElem?
  intro k
  by_cases hk : k < l.length * 4
  · rw [rowF_get _ _ _ hk, rcell, List.getD_eq_getElem?_getD, List.getElem?_eq_getElem (by rw [rowL_length]; exact hk)]
    rfl
  · rw [List.getElem?_eq_none (by rw [rowL_length]; omega), List.getElem?_eq_none (by simp [rowF]; omega)]
theorem rcell_at (l : List Rc) (i : Nat) (h : i < l.length) : rcell l (i * 4) = .int .i64 l[i].x0 ∧ rcell l (i * 4 + 1) = .int .i64 l[i].y0 ∧ rcell l (i * 4 + 2) = .int .i64 l[i].x1 ∧ rcell l (i * 4 + 3) = .int .i64 l[i].y1 := by
  obtain ⟨h0, h1, h2, h3⟩ := rowL_get l i h
  simp only [rcell, List.getD_eq_getElem?_getD, h0, h1, h2, h3, Option.getD_some, and_self]
/-- The cells that the marks from k on make. -/
def markC (k : Int) (j : Nat) : Value := .int .i64 (k + j)
def markL (k : Int) (n : Nat) : List Rc := (List.range n).map fun i : Nat => ⟨k + 4 * (i : Int), k + 4 * (i : Int) + 1, k + 4 * (i : Int) + 2, k + 4 * (i : Int) + 3⟩
theorem markL_length (k : Int) (n : Nat) : (markL k n).length = n := by simp [markL]
theorem markL_get (k : Int) (n i : Nat) (h : i < (markL k n).length) : (markL k n)[i] = ⟨k + 4 * i, k + 4 * i + 1, k + 4 * i + 2, k + 4 * i + 3⟩ := by simp [markL]
theorem rowL_mark (k : Int) (n : Nat) : rowL (markL k n) = rowF (markC k) (n * 4) := by
  rw [rowL_rowF, markL_length]
  refine rowF_congr fun j hj => ?_
  obtain ⟨i, q, hq, rfl⟩ : ∃ i q : Nat, q < 4 ∧ j = i * 4 + q := ⟨j / 4, j % 4, by omega, by omega⟩
  have hi : i < (markL k n).length := by rw [markL_length]; omega
  obtain ⟨h0, h1, h2, h3⟩ := rcell_at (markL k n) i hi
  rw [markL_get] at h0 h1 h2 h3
  have : q = 0 ∨ q = 1 ∨ q = 2 ∨ q = 3 := by omega
  rcases this with rfl | rfl | rfl | rfl
  · exact h0.trans (by unfold markC; refine congrArg (Value.int .i64) ?_; show _ = k + _; simp only; omega)
  · exact h1.trans (by unfold markC; refine congrArg (Value.int .i64) ?_; show _ = k + _; simp only; omega)
  · exact h2.trans (by unfold markC; refine congrArg (Value.int .i64) ?_; show _ = k + _; simp only; omega)
  · exact h3.trans (by unfold markC; refine congrArg (Value.int .i64) ?_; show _ = k + _; simp only; omega)

theorem list_rowF (xs : List Value) {m : Nat} (h : xs.length = m) : xs = rowF (fun j => xs.getD j undef) m := by
  apply List.ext_getElem?
  intro k
  by_cases hk : k < m
  · rw [rowF_get _ _ _ hk, List.getD_eq_getElem?_getD, List.getElem?_eq_getElem (by omega)]
    rfl
  · rw [List.getElem?_eq_none (by omega), List.getElem?_eq_none (by simp [rowF]; omega)]
theorem own_at {w : World} {base e g n cap : Nat} {f : Nat → Value} (h : w.ownsRow base e 4 (.slice (some ⟨g, 0, none⟩) n cap) n (rowF f (n * 4))) (j : Nat) (hj : j < n * 4) : w.cell? ⟨g, j, none⟩ = some (f j) :=
  (h.cellAt j hj).trans (rowF_get f _ j hj)
set_option maxRecDepth 100000 in
set_option maxHeartbeats 400000 in
theorem laws_szRectS (n cap : Nat) (a : Option Addr) (hn : n ≤ maxLen) (w : World) : Calls Try.prog 64 #[.slice a n cap, .int .i64 1048576] w fun e w' => e = .returned (.int .i64 (if n ≤ 1048576 then 1048576 - (n : Int) else -1)) ∧ w = w' := by
  unfold maxLen at hn
  by_cases h : n ≤ 1048576
  · have h1 : ¬ (1048576 - (n : Int) < 0) := by omega
    go_enter Try.func64, Try.ntmps64
    go_wp2
    go_ret
    exact ⟨by simp, rfl⟩
  · have h1 : 1048576 - (n : Int) < 0 := by omega
    go_enter Try.func64, Try.ntmps64
    go_wp2
    go_ret
    exact ⟨by simp, rfl⟩
set_option maxRecDepth 100000 in
set_option maxHeartbeats 1600000 in
theorem laws_toRectS (l : List Rc) (a : Option Addr) (cap : Nat) (w : World) (h : InRects w.heap.size w a l) (hn : l.length ≤ 1048576) : Calls Try.prog 66 #[.slice a l.length cap] w
    fun e w' => ∃ a' cap', e = .returned (.slice a' l.length cap') ∧ OwnRects w' w.heap.size (.slice a' l.length cap') l ∧ Below w.heap.size w w' := by
  obtain ⟨ii, hii, hiz⟩ := Option.map_eq_some_iff.1 rect_info
  simp only [Prod.mk.injEq] at hiz
  obtain ⟨hz, hsz, hby⟩ := hiz
  obtain ⟨w0, hrun, hown0, hg0⟩ := run_make_full (P := Try.prog) w w.heap.size 24 39 ii _ 4 Try.underlying24 hii hz hsz .i64 .i64 l.length (by rw [hby]; omega) (by unfold maxLen; omega) (Nat.le_refl _)
  clear hz hsz hby hii
  go_enter Try.func66, Try.ntmps66
  go_wp2_with fail
  go_loopw [4] (fun s4 wr => ∃ (i : Nat) (f : Nat → Value), i ≤ l.length ∧ s4 = .int .i64 i ∧ wr.ownsRow w.heap.size 39 4 (.slice (some ⟨w.heap.size, 0, none⟩) l.length l.length) l.length (rowF f (l.length * 4)) ∧ (∀ j, j < i * 4 → f j = rcell l j) ∧ Below w.heap.size w wr) (fun s4 _ => l.length - (intOf s4).toNat)
  case atStart => exact ⟨0, _, Nat.zero_le _, rfl, by rw [← list_rowF _ hown0.1]; exact hown0, fun j hj => absurd hj (by omega), Below.grown (Below.refl _ _) hg0 (Nat.le_refl _) (by simp)⟩
  case round =>
    obtain ⟨i, f, hi, rfl, hown, hf, hbl⟩ := hrel
    have HF := hide hf
    clear hf hown0 hg0
    by_cases hy : i < l.length
    · obtain ⟨g, off, ha, hg, c0, c1, c2, c3⟩ := h.below hbl (Nat.le_refl _) i l[i] (List.getElem?_eq_getElem hy)
      subst ha
      go_wp2_with (go_at_call 123; refine (laws_toRect _ _ _ _ _).mono ?_; rintro e w1 ⟨rfl, hb1⟩; have ho1 := own_below hown hb1; have d0 := own_at ho1 (i * 4) (by omega); have d1 := own_at ho1 (i * 4 + 1) (by omega); have d2 := own_at ho1 (i * 4 + 2) (by omega); have d3 := own_at ho1 (i * 4 + 3) (by omega); have f0 := ho1.frozenAt (i * 4); have f1 := ho1.frozenAt (i * 4 + 1); have f2 := ho1.frozenAt (i * 4 + 2); have f3 := ho1.frozenAt (i * 4 + 3))
      go_roundw
      case rel =>
        have s1 := ((((ho1.stored (i * 4) (.int .i64 l[i].x0)).1.stored (i * 4 + 1) (.int .i64 l[i].y0)).1.stored (i * 4 + 2) (.int .i64 l[i].x1)).1.stored (i * 4 + 3) (.int .i64 l[i].y1)).1
        rw [rowF_set, rowF_set, rowF_set, rowF_set] at s1
        refine ⟨i + 1, _, hy, by go_num, s1, fun j hj => ?_, ?_⟩
        · obtain ⟨r0, r1, r2, r3⟩ := rcell_at l i hy
          by_cases e3 : j = i * 4 + 3
          · rw [if_pos e3, e3, r3]
          rw [if_neg e3]
          by_cases e2 : j = i * 4 + 2
          · rw [if_pos e2, e2, r2]
          rw [if_neg e2]
          by_cases e1 : j = i * 4 + 1
          · rw [if_pos e1, e1, r1]
          rw [if_neg e1]
          by_cases e0 : j = i * 4
          · rw [if_pos e0, e0, r0]
          rw [if_neg e0]
          exact HF.out j (by omega)
        · exact (((((hbl.trans (hb1.mono hbl.size)).setCell (Nat.le_refl _) _).setCell (Nat.le_refl _) _).setCell (Nat.le_refl _) _).setCell (Nat.le_refl _) _)
      case measure => simp [intOf]; omega
    · go_wp2_with fail
      go_ret
      refine ⟨_, _, rfl, ?_, hbl⟩
      rw [OwnRects, rowL_rowF, ← rowF_congr fun j hj => HF.out j (by omega)]
      exact hown
theorem beq_rc {r s : Rc} : (((r.x0 == s.x0) && (r.y0 == s.y0) && (r.x1 == s.x1) && (r.y1 == s.y1)) = true) ↔ r = s := by
  simp only [Bool.and_eq_true, beq_iff_eq]
  exact ⟨fun e => Rc.ext' e.1.1.1 e.1.1.2 e.1.2 e.2, fun e => by rw [e]; exact ⟨⟨⟨rfl, rfl⟩, rfl⟩, rfl⟩⟩
set_option maxRecDepth 100000 in
set_option maxHeartbeats 1600000 in
theorem laws_eqRectS (l : List Rc) (a a' : Option Addr) (cap cap' : Nat) (w : World) (h : RectsAt w.heap.size w a l) (h' : RectsAt w.heap.size w a' l) (hn : l.length ≤ 2000000) :
    Calls Try.prog 19 #[.slice a l.length cap, .slice a' l.length cap'] w fun e w' => e = .returned (.bool true) ∧ Below w.heap.size w w' := by
  go_enter Try.func19, Try.ntmps19
  go_wp2_with fail
  go_loopw [5] (fun sk wr => ∃ i : Nat, i ≤ l.length ∧ sk = .int .i64 i ∧ Below w.heap.size w wr) (fun k _ => l.length - (intOf k).toNat)
  case atStart => exact ⟨0, Nat.zero_le _, rfl, (by repeat (first | with_reducible exact Below.refl _ _ | with_reducible assumption | with_reducible refine bel_alloc ?_ _ | with_reducible refine bel_drew ?_ | with_reducible refine bel_drewN ?_ _ | with_reducible refine bel_set ?_ (by (try simp) <;> omega) _ | with_reducible refine bel_trans ?_ (by assumption)))⟩
  case round =>
    obtain ⟨i, hi, rfl, hbl⟩ := hrel
    by_cases hy : i < l.length
    · obtain ⟨g, ha, hg, c0, c1, c2, c3⟩ := h.below hbl (Nat.le_refl _) i l[i] (List.getElem?_eq_getElem hy)
      obtain ⟨g', ha', hg', c0', c1', c2', c3'⟩ := h'.below hbl (Nat.le_refl _) i l[i] (List.getElem?_eq_getElem hy)
      subst ha
      subst ha'
      have hx0 : (0 : Int) ≤ (i : Int) := Int.natCast_nonneg _
      have hx1 : (i : Int) < (l.length : Int) := by omega
      go_wp2_with fail
      go_region_held3 (fun w' => w'.cell? ⟨g, i * 4, none⟩ = some (.int .i64 l[i].x0) ∧ w'.cell? ⟨g, i * 4 + 1, none⟩ = some (.int .i64 l[i].y0) ∧ w'.cell? ⟨g, i * 4 + 2, none⟩ = some (.int .i64 l[i].x1) ∧ w'.cell? ⟨g, i * 4 + 3, none⟩ = some (.int .i64 l[i].y1) ∧ w'.cell? ⟨g', i * 4, none⟩ = some (.int .i64 l[i].x0) ∧ w'.cell? ⟨g', i * 4 + 1, none⟩ = some (.int .i64 l[i].y0) ∧ w'.cell? ⟨g', i * 4 + 2, none⟩ = some (.int .i64 l[i].x1) ∧ w'.cell? ⟨g', i * 4 + 3, none⟩ = some (.int .i64 l[i].y1) ∧ Below w.heap.size w w')
        (first | (go_split_ands; ((repeat' apply And.intro) <;> first | exact keep_cell hb (by assumption) | exact bel_trans (by assumption) hb | exact bel_trans (bel_drew (by assumption)) hb)) | ((repeat' apply And.intro) <;> first | (simp [go_sem, *]; done) | exact (by repeat (first | with_reducible exact Below.refl _ _ | with_reducible assumption | with_reducible refine bel_alloc ?_ _ | with_reducible refine bel_drew ?_ | with_reducible refine bel_drewN ?_ _ | with_reducible refine bel_set ?_ (by (try simp) <;> omega) _ | with_reducible refine bel_trans ?_ (by assumption))))) ((go_at_call 68; refine (laws_eqRect _ _ _ _ _).mono ?_; rintro e w1 ⟨rfl, hb⟩))
      all_goals
        go_wp2_with fail
        go_roundw
        case rel => exact ⟨i + 1, hy, by go_num, (by repeat (first | with_reducible exact Below.refl _ _ | with_reducible assumption | with_reducible refine bel_alloc ?_ _ | with_reducible refine bel_drew ?_ | with_reducible refine bel_drewN ?_ _ | with_reducible refine bel_set ?_ (by (try simp) <;> omega) _ | with_reducible refine bel_trans ?_ (by assumption)))⟩
        case measure => simp [intOf]; omega
    · go_wp2_with fail
      go_ret
      exact ⟨rfl, hbl⟩
set_option maxRecDepth 100000 in
set_option maxHeartbeats 3200000 in
theorem laws_markRectS_at (k0 : Int) (hk0 : 0 ≤ k0 ∧ k0 ≤ 100000000) (l : List Rc) (a : Option Addr) (cap base : Nat) (w : World) (h : OwnRects w base (.slice a l.length cap) l) (hn : l.length ≤ 2000000) :
    Calls Try.prog 22 #[.slice a l.length cap, .int .i64 k0] w fun e w' => e = .returned (.int .i64 (k0 + 4 * (l.length : Int))) ∧ OwnRects w' base (.slice a (markL k0 l.length).length cap) (markL k0 l.length) ∧ w.grownBy w' (Value.slice a l.length cap).ownBlock := by
  unfold OwnRects at h ⊢
  obtain ⟨hka, hkb⟩ := hk0
  rw [rowL_rowF] at h
  rw [rowL_mark, markL_length]
  by_cases hn0 : l.length = 0
  · rw [hn0] at h ⊢
    go_enter Try.func22, Try.ntmps22
    go_wp2_with fail
    go_loopw [1, 5] (fun s1 s5 wr => s1 = .int .i64 k0 ∧ s5 = .int .i64 0 ∧ wr = w) (fun _ _ _ => 0)
    case atStart => exact ⟨rfl, rfl, rfl⟩
    case round =>
      obtain ⟨rfl, rfl, rfl⟩ := hrel
      go_wp2_with fail
      go_ret
      exact ⟨by simp, h, ⟨rfl, rfl, rfl, Nat.le_refl _, fun _ _ _ => rfl⟩⟩
  · obtain ⟨g, cap', hq, hg1, hg2⟩ := h.form (by omega)
    simp only [Value.slice.injEq, true_and] at hq
    obtain ⟨rfl, rfl⟩ := hq
    generalize hm : l.length = m at *
    have HM := hide hm
    clear hm hn0
    generalize rcell l = f0 at h
    go_enter Try.func22, Try.ntmps22
    go_wp2_with fail
    go_loopw [1, 5] (fun s1 s5 wr => ∃ (i : Nat) (f : Nat → Value), i ≤ m ∧ s5 = .int .i64 i ∧ s1 = .int .i64 (k0 + 4 * (i : Int)) ∧ wr.ownsRow base 39 4 (.slice (some ⟨g, 0, none⟩) m cap) m (rowF f (m * 4)) ∧ (∀ j, j < i * 4 → f j = markC k0 j) ∧ w.grownBy wr (some g)) (fun _ s5 _ => m - (intOf s5).toNat)
    case atStart => exact ⟨0, f0, Nat.zero_le _, rfl, by simp, h, fun j hj => absurd hj (by omega), ⟨rfl, rfl, rfl, Nat.le_refl _, fun _ _ _ => rfl⟩⟩
    case round =>
      obtain ⟨i, f, hi, rfl, rfl, hown, hf, hgr⟩ := hrel
      have HF := hide hf
      clear hf h
      by_cases hy : i < m
      · have d0 := own_at hown (i * 4) (by omega)
        have d1 := own_at hown (i * 4 + 1) (by omega)
        have d2 := own_at hown (i * 4 + 2) (by omega)
        have d3 := own_at hown (i * 4 + 3) (by omega)
        have f0 := hown.frozenAt (i * 4)
        have f1 := hown.frozenAt (i * 4 + 1)
        have f2 := hown.frozenAt (i * 4 + 2)
        have f3 := hown.frozenAt (i * 4 + 3)
        go_wp2_with fail
        go_roundw
        case rel =>
          have s1 := ((((hown.stored (i * 4) (.int .i64 (k0 + 4 * (i : Int)))).1.stored (i * 4 + 1) (.int .i64 (k0 + 4 * (i : Int) + 1))).1.stored (i * 4 + 2) (.int .i64 (k0 + 4 * (i : Int) + 1 + 1))).1.stored (i * 4 + 3) (.int .i64 (k0 + 4 * (i : Int) + 1 + 1 + 1))).1
          have g1 := (((hgr.trans (hown.stored (i * 4) (.int .i64 (k0 + 4 * (i : Int)))).2).trans ((hown.stored (i * 4) _).1.stored (i * 4 + 1) (.int .i64 (k0 + 4 * (i : Int) + 1))).2).trans
            (((hown.stored (i * 4) _).1.stored (i * 4 + 1) _).1.stored (i * 4 + 2) (.int .i64 (k0 + 4 * (i : Int) + 1 + 1))).2).trans ((((hown.stored (i * 4) _).1.stored (i * 4 + 1) _).1.stored (i * 4 + 2) _).1.stored (i * 4 + 3) (.int .i64 (k0 + 4 * (i : Int) + 1 + 1 + 1))).2
          rw [rowF_set, rowF_set, rowF_set, rowF_set] at s1
          refine ⟨i + 1, _, hy, by go_num, by congr 1 <;> omega, s1, fun j hj => ?_, g1⟩
          by_cases e3 : j = i * 4 + 3
          · rw [if_pos e3, e3]; unfold markC; congr 1 <;> omega
          rw [if_neg e3]
          by_cases e2 : j = i * 4 + 2
          · rw [if_pos e2, e2]; unfold markC; congr 1 <;> omega
          rw [if_neg e2]
          by_cases e1 : j = i * 4 + 1
          · rw [if_pos e1, e1]; unfold markC; congr 1 <;> omega
          rw [if_neg e1]
          by_cases e0 : j = i * 4
          · rw [if_pos e0, e0]; unfold markC; congr 1 <;> omega
          rw [if_neg e0]
          exact HF.out j (by omega)
        case measure => simp [intOf]; omega
      · go_wp2_with fail
        go_ret
        obtain rfl : i = m := by omega
        refine ⟨rfl, ?_, hgr⟩
        rw [← rowF_congr fun j hj => HF.out j hj]
        exact hown
theorem laws_markRectS (l : List Rc) (a : Option Addr) (cap base : Nat) (w : World) (h : OwnRects w base (.slice a l.length cap) l) (hn : l.length ≤ 2000000) :
    Calls Try.prog 22 #[.slice a l.length cap, .int .i64 1] w fun e w' => e = .returned (.int .i64 (1 + 4 * (l.length : Int))) ∧ OwnRects w' base (.slice a (markL 1 l.length).length cap) (markL 1 l.length) ∧ w.grownBy w' (Value.slice a l.length cap).ownBlock :=
  laws_markRectS_at 1 (by omega) l a cap base w h hn
set_option maxRecDepth 100000 in
set_option maxHeartbeats 1600000 in
theorem laws_heldRectS (n : Nat) (a : Option Addr) (cap : Nat) (w : World) (h : RectsAt w.heap.size w a (markL 1 n)) (hn : n ≤ 2000000) :
    Calls Try.prog 23 #[.slice a n cap, .int .i64 1] w fun e w' => e = .returned (.int .i64 (1 + 4 * (n : Int))) ∧ w = w' := by
  go_enter Try.func23, Try.ntmps23
  go_wp2_with fail
  go_loopw [1, 5] (fun s1 s5 wr => ∃ i : Nat, i ≤ n ∧ s5 = .int .i64 i ∧ s1 = .int .i64 (1 + 4 * (i : Int)) ∧ wr = w) (fun _ s5 _ => n - (intOf s5).toNat)
  case atStart => exact ⟨0, Nat.zero_le _, rfl, rfl, rfl⟩
  case round =>
    obtain ⟨i, hi, rfl, rfl, rfl⟩ := hrel
    by_cases hy : i < n
    · obtain ⟨g, ha, hg, c0, c1, c2, c3⟩ := h i _ (List.getElem?_eq_getElem (by rw [markL_length]; exact hy))
      rw [markL_get] at c0 c1 c2 c3
      subst ha
      have q0 : (1 + 4 * (i : Int) == 1 + 4 * (i : Int)) = true := by simp
      have q1 : 1 + 4 * (i : Int) + 2 = 1 + 4 * (i : Int) + 1 + 1 := by omega
      have q2 : 1 + 4 * (i : Int) + 3 = 1 + 4 * (i : Int) + 1 + 1 + 1 := by omega
      simp only at c0 c1 c2 c3
      rw [q1] at c2
      rw [q2] at c3
      clear q0 q1 q2
      go_wp2_with fail
      go_roundw
      case rel => exact ⟨i + 1, hy, by go_num, by first | trivial | (congr 1 <;> omega), by first | trivial | rfl⟩
      case measure => simp [intOf]; omega
    · go_wp2_with fail
      go_ret
      obtain rfl : i = n := by omega
      exact ⟨rfl, rfl⟩
end Go.Proofs.Ytldgjocjcbhkmaa
