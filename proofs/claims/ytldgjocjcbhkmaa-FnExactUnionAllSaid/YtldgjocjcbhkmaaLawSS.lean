/- Contracts of the laws' own helpers on lists of lists of rectangles. -/
import Derived.Test.YtldgjocjcbhkmaaFrameS
import Derived.Test.YtldgjocjcbhkmaaRegN
namespace Go.Proofs.Ytldgjocjcbhkmaa
open Go.RowKit
attribute [local go_sem low] cell_alloc_ite frozen_alloc_ite

/-- All rectangles of the lists. -/
def totS (ls : List (List Rc)) : Nat := (ls.map List.length).sum
theorem totS_take (ls : List (List Rc)) (i : Nat) (h : i < ls.length) : totS (ls.take (i + 1)) = totS (ls.take i) + ls[i].length := by
  rw [totS, totS, List.take_succ_eq_append_getElem h, List.map_append, List.sum_append]
  simp
theorem totS_le (ls : List (List Rc)) (i : Nat) : totS (ls.take i) ≤ totS ls := by
  have h : totS ls = totS (ls.take i) + totS (ls.drop i) := by
    unfold totS
    rw [← List.sum_append, ← List.map_append, List.take_append_drop]
  omega
theorem totS_mem (ls : List (List Rc)) (i : Nat) (h : i < ls.length) : ls[i].length ≤ totS ls := by
  have h1 := totS_take ls i h
  have h2 := totS_le ls (i + 1)
  omega
set_option maxRecDepth 100000 in
set_option maxHeartbeats 1600000 in
theorem laws_szRectSS (ls : List (List Rc)) (a : Option Addr) (cap : Nat) (w : World) (h : InSS w.heap.size w a ls) (hm : ls.length ≤ maxLen) : Calls Try.prog 15 #[.slice a ls.length cap, .int .i64 1048576] w
    fun e w' => (e = .returned (.int .i64 (-1)) ∨ (e = .returned (.int .i64 (1048576 - (ls.length : Int) - (totS ls : Int))) ∧ (ls.length : Int) + (totS ls : Int) ≤ 1048576)) ∧ Below w.heap.size w w' := by
  unfold maxLen at hm
  by_cases hn : (ls.length : Int) ≤ 1048576
  · have hn1 : ¬ (1048576 - (ls.length : Int) < 0) := by omega
    have hn2 : (0 : Int) ≤ 1048576 - (ls.length : Int) := by omega
    go_enter Try.func15, Try.ntmps15
    go_wp2_with fail
    go_loopw [1, 5] (fun s1 s5 wr => ∃ i : Nat, i ≤ ls.length ∧ s5 = .int .i64 i ∧ s1 = .int .i64 (1048576 - (ls.length : Int) - (totS (ls.take i) : Int)) ∧ (ls.length : Int) + (totS (ls.take i) : Int) ≤ 1048576 ∧ Below w.heap.size w wr) (fun _ s5 _ => ls.length - (intOf s5).toNat)
    case atStart => exact ⟨0, Nat.zero_le _, rfl, by simp [totS], by simpa [totS] using hn, (by repeat (first | with_reducible exact Below.refl _ _ | with_reducible assumption | with_reducible refine bel_alloc ?_ _ | with_reducible refine bel_drew ?_ | with_reducible refine bel_drewN ?_ _ | with_reducible refine bel_set ?_ (by (try simp) <;> omega) _ | with_reducible refine bel_trans ?_ (by assumption)))⟩
    case round =>
      obtain ⟨i, hi, rfl, rfl, hs, hbl⟩ := hrel
      by_cases hy : i < ls.length
      · obtain ⟨g, off, b, c, ha, hg, c0, hlm, hin⟩ := h.below hbl (Nat.le_refl _) i ls[i] (List.getElem?_eq_getElem hy)
        subst ha
        have ht := totS_take ls i hy
        have hx : (i : Int) < (ls.length : Int) := by omega
        go_wp2_with fail
        go_at_call 64
        by_cases hk : (ls[i].length : Int) ≤ 1048576 - (ls.length : Int) - (totS (ls.take i) : Int)
        · refine (laws_szRectS_ok _ _ _ (1048576 - (ls.length : Int) - (totS (ls.take i) : Int)) (by omega) hk _).mono ?_
          rintro e w' ⟨rfl, rfl⟩
          have hz : ¬ (1048576 - (ls.length : Int) - (totS (ls.take i) : Int) - (ls[i].length : Int) < 0) := by omega
          go_wp2_with fail
          go_roundw
          case rel => exact ⟨i + 1, hy, by go_num, by rw [ht]; congr 1; omega, by omega, (by repeat (first | with_reducible exact Below.refl _ _ | with_reducible assumption | with_reducible refine bel_alloc ?_ _ | with_reducible refine bel_drew ?_ | with_reducible refine bel_drewN ?_ _ | with_reducible refine bel_set ?_ (by (try simp) <;> omega) _ | with_reducible refine bel_trans ?_ (by assumption)))⟩
          case measure => simp [intOf]; omega
        · refine (laws_szRectS_no _ _ _ (1048576 - (ls.length : Int) - (totS (ls.take i) : Int)) (by omega) hk hlm _).mono ?_
          rintro e w' ⟨rfl, rfl⟩
          go_wp2_with fail
          go_ret
          exact ⟨.inl rfl, (by repeat (first | with_reducible exact Below.refl _ _ | with_reducible assumption | with_reducible refine bel_alloc ?_ _ | with_reducible refine bel_drew ?_ | with_reducible refine bel_drewN ?_ _ | with_reducible refine bel_set ?_ (by (try simp) <;> omega) _ | with_reducible refine bel_trans ?_ (by assumption)))⟩
      · have hx : ¬ (i : Int) < (ls.length : Int) := by omega
        obtain rfl : i = ls.length := by omega
        rw [List.take_length] at *
        go_wp2_with fail
        go_ret
        exact ⟨.inr (by first | exact ⟨rfl, hs⟩ | rfl), (by repeat (first | with_reducible exact Below.refl _ _ | with_reducible assumption | with_reducible refine bel_alloc ?_ _ | with_reducible refine bel_drew ?_ | with_reducible refine bel_drewN ?_ _ | with_reducible refine bel_set ?_ (by (try simp) <;> omega) _ | with_reducible refine bel_trans ?_ (by assumption)))⟩
  · have hn1 : (1048576 - (ls.length : Int) < 0) := by omega
    go_enter Try.func15, Try.ntmps15
    go_wp2_with fail
    go_ret
    exact ⟨.inl rfl, (by repeat (first | with_reducible exact Below.refl _ _ | with_reducible assumption | with_reducible refine bel_alloc ?_ _ | with_reducible refine bel_drew ?_ | with_reducible refine bel_drewN ?_ _ | with_reducible refine bel_set ?_ (by (try simp) <;> omega) _ | with_reducible refine bel_trans ?_ (by assumption)))⟩
/-- A slice of slices of a call's own: the row of slices in block G, each of them a row of its own from block B on, no two of them one. -/
structure OwnSS (w : World) (B G : Nat) (f : Nat → Value) (ls : List (List Rc)) : Prop where
  lo : B ≤ G
  row : w.rowIs G 24 ls.length f
  own : ∀ i l, ls[i]? = some l → OwnRects w B (f i) l
  ne : ∀ i j, i < j → j < ls.length → (f i).ownBlock = none ∨ (f i).ownBlock ≠ (f j).ownBlock
theorem own_ty {W : World} {B b t n : Nat} {v : Value} {l : List Rc} {f : Nat → Value} (h : OwnRects W B v l) (hr : W.rowIs b t n f) (ht : t ≠ 39) : v.ownBlock = none ∨ v.ownBlock ≠ some b := by
  rcases h.2 with ⟨rfl, _⟩ | ⟨g, cap, cur, rfl, _, hg, _⟩
  · exact .inl rfl
  · refine .inr fun e => ht ?_
    simp only [Value.ownBlock, Option.some.injEq] at e
    subst e
    obtain ⟨c, hc, _⟩ := hr
    rw [hc] at hg
    simp only [Option.some.injEq, Obj.cells.injEq] at hg
    exact hg.2.1
theorem rowIs_grown {W W' : World} {b t n : Nat} {f : Nat → Value} {row : Option Nat} (h : W.rowIs b t n f) (hg : W.grownBy W' row) (hne : row = none ∨ row ≠ some b) : W'.rowIs b t n f :=
  h.of_block (hg.block b h.lt (fun e => by
    rcases hne with h1 | h1
    · rw [h1] at e; exact absurd e (by simp)
    · exact h1 e.symm))
theorem OwnSS.next {w w' : World} {B G : Nat} {f : Nat → Value} {ls : List (List Rc)} (h : OwnSS w B G f ls) (hb : Below w.heap.size w w') : OwnSS w' B G f ls :=
  ⟨h.lo, rowIs_kept h.row hb, fun i l hi => own_next (h.own i l hi) hb, h.ne⟩
theorem OwnSS.at {w : World} {B G : Nat} {f : Nat → Value} {ls : List (List Rc)} (h : OwnSS w B G f ls) (hm : ∀ l ∈ ls, l.length ≤ 2000000) : SSAt w.heap.size w (some ⟨G, 0, none⟩) ls := fun i l hi => by
  obtain ⟨hl, he⟩ := List.getElem?_eq_some_iff.1 hi
  have ho := h.own i l hi
  obtain ⟨a, c, hv⟩ := own_slice ho
  have hc := h.row.cell hl
  rw [hv] at ho hc
  exact ⟨G, a, c, rfl, h.row.lt, hc, hm l (List.mem_of_getElem? hi), rects_at ho⟩
/-- What the marks leave: whatever owns a row that is none of these. -/
def KeptSS (w w' : World) (n : Nat) (f : Nat → Value) : Prop := ∀ (base : Nat) (v : Value) (l : List Rc), OwnRects w base v l → (∀ i, i < n → v.ownBlock = none ∨ v.ownBlock ≠ (f i).ownBlock) → OwnRects w' base v l
theorem len_tot {ls : List (List Rc)} {m : Nat} (h : ls.length + totS ls ≤ m) : ∀ l ∈ ls, l.length ≤ m := fun l hl => by
  obtain ⟨i, hi, rfl⟩ := List.getElem_of_mem hl
  have := totS_mem ls i hi
  omega
theorem slice_info : (Try.prog.info? 24).map (fun i => (i.zero, i.size, i.bytes)) = some (some (.slice none 0 0), 1, 24) := by kernel_rfl
set_option maxRecDepth 100000 in
set_option maxHeartbeats 1600000 in
theorem laws_toRectSS (ls : List (List Rc)) (a : Option Addr) (cap : Nat) (w : World) (h : InSS w.heap.size w a ls) (hn : ls.length + totS ls ≤ 1048576) : Calls Try.prog 17 #[.slice a ls.length cap] w
    fun e w' => ∃ G f, e = .returned (.slice (some ⟨G, 0, none⟩) ls.length ls.length) ∧ OwnSS w' w.heap.size G f ls ∧ Below w.heap.size w w' := by
  have hz := World.rowIs_made w (.slice none 0 0) ls.length 24
  have hm : ∀ w : World, (Instr.makeSlice 26 (.int .i64 (ls.length : Int)) (.int .i64 (ls.length : Int))).run Try.prog w = .ok (.slice (some ⟨w.heap.size, 0, none⟩) ls.length ls.length) (w.alloc (.cells (madeCells #[.slice none 0 0] ls.length) 24)) :=
    fun w => run_make_row' (P := Try.prog) 26 24 (.slice none 0 0) 24 Try.underlying26 slice_info rfl .i64 .i64 ls.length (by omega) (by omega) w
  go_enter Try.func17, Try.ntmps17
  go_wp2_with fail
  go_loopw [4] (fun s4 wr => ∃ (i : Nat) (f : Nat → Value), i ≤ ls.length ∧ s4 = .int .i64 i ∧ wr.rowIs w.heap.size 24 ls.length f ∧ Hid (∀ j l, j < i → ls[j]? = some l → OwnRects wr w.heap.size (f j) l) ∧ Hid (∀ j k, j < k → k < i → (f j).ownBlock = none ∨ (f j).ownBlock ≠ (f k).ownBlock) ∧ Below w.heap.size w wr) (fun s4 _ => ls.length - (intOf s4).toNat)
  case atStart => exact ⟨0, _, Nat.zero_le _, rfl, hz, fun j l hj => absurd hj (by omega), fun j k _ hk => absurd hk (by omega), (by repeat (first | with_reducible exact Below.refl _ _ | with_reducible assumption | with_reducible refine bel_alloc ?_ _ | with_reducible refine bel_drew ?_ | with_reducible refine bel_drewN ?_ _ | with_reducible refine bel_set ?_ (by (try simp) <;> omega) _ | with_reducible refine bel_trans ?_ (by assumption)))⟩
  case round =>
    clear hz
    obtain ⟨i, f, hi, rfl, hrow, HO, HN, hbl⟩ := hrel
    by_cases hy : i < ls.length
    · obtain ⟨g, off, b, c, ha, hg, c0, hlm, hin⟩ := h.below hbl (Nat.le_refl _) i ls[i] (List.getElem?_eq_getElem hy)
      subst ha
      have hx1 : (i : Int) < (ls.length : Int) := by omega
      have hli : ls[i].length ≤ 1048576 := len_tot hn _ (List.getElem_mem hy)
      have HL := hide hli
      clear hli
      go_wp2_with fail
      go_at_call 66
      refine (laws_toRectS ls[i] _ _ _ (hin.mono hbl.size) HL.out).mono ?_
      rintro e w1 ⟨a1, c1, rfl, ho1, hb1⟩
      have hrow1 := rowIs_kept hrow hb1
      have d0 := hrow1.cell hy
      have df := hrow1.frozen i
      have hb2 := bel_trans hbl hb1
      clear c0 hin hrow
      go_wp2_with fail
      go_roundw
      case rel =>
        have hset := hrow1.set i (.slice a1 ls[i].length c1)
        have hgs : w1.grownBy (w1.setCell ⟨w.heap.size, i, none⟩ (.slice a1 ls[i].length c1)) (some w.heap.size) := ⟨rfl, rfl, rfl, by simp [World.setCell], fun k _ hne => Below.heap_setCell w1 ⟨w.heap.size, i, none⟩ _ k (fun e => hne (by rw [e]))⟩
        refine ⟨i + 1, _, hy, by go_num, hset, fun j l hj hjl => ?_, fun j k hjk hk => ?_, hb2.setCell (Nat.le_refl _) _⟩
        · by_cases e : j = i
          · subst e
            rw [if_pos rfl]
            obtain rfl : ls[j] = l := by rw [List.getElem?_eq_getElem hy] at hjl; exact Option.some.inj hjl
            exact own_marked (own_base ho1 hbl.size) hgs (own_ty ho1 hrow1 (by decide))
          · rw [if_neg e]
            have hold := own_next (HO.out j l (by omega) hjl) hb1
            exact own_marked hold hgs (own_ty hold hrow1 (by decide))
        · by_cases e : k = i
          · subst e
            rw [if_neg (by omega), if_pos rfl]
            have hjl : j < ls.length := by omega
            exact own_ne (HO.out j ls[j] (by omega) (List.getElem?_eq_getElem hjl)) ho1
          · rw [if_neg (by omega), if_neg e]
            exact HN.out j k hjk (by omega)
      case measure => simp [intOf]; omega
    · obtain rfl : i = ls.length := by omega
      have hx1 : ¬ (ls.length : Int) < (ls.length : Int) := by omega
      go_wp2_with fail
      go_ret
      have hfin : OwnSS _ w.heap.size w.heap.size f ls := ⟨Nat.le_refl _, hrow, fun i l hil => HO.out i l (List.getElem?_eq_some_iff.1 hil).1 hil, HN.out⟩
      first | exact ⟨_, f, rfl, hfin, hbl⟩ | exact ⟨_, rfl, ⟨f, hfin⟩, hbl⟩
set_option maxRecDepth 100000 in
set_option maxHeartbeats 1600000 in
theorem laws_eqRectSS (ls : List (List Rc)) (a a' : Option Addr) (cap cap' : Nat) (w : World) (h : SSAt w.heap.size w a ls) (h' : SSAt w.heap.size w a' ls) (hn : ls.length ≤ 2000000) :
    Calls Try.prog 20 #[.slice a ls.length cap, .slice a' ls.length cap'] w fun e w' => e = .returned (.bool true) ∧ Below w.heap.size w w' := by
  go_enter Try.func20, Try.ntmps20
  go_wp2_with fail
  go_loopw [5] (fun sk wr => ∃ i : Nat, i ≤ ls.length ∧ sk = .int .i64 i ∧ Below w.heap.size w wr) (fun k _ => ls.length - (intOf k).toNat)
  case atStart => exact ⟨0, Nat.zero_le _, rfl, (by repeat (first | with_reducible exact Below.refl _ _ | with_reducible assumption | with_reducible refine bel_alloc ?_ _ | with_reducible refine bel_drew ?_ | with_reducible refine bel_drewN ?_ _ | with_reducible refine bel_set ?_ (by (try simp) <;> omega) _ | with_reducible refine bel_trans ?_ (by assumption)))⟩
  case round =>
    obtain ⟨i, hi, rfl, hbl⟩ := hrel
    by_cases hy : i < ls.length
    · obtain ⟨g, b, c, ha, hg, c0, hlm, hr⟩ := (h.kept hbl) i ls[i] (List.getElem?_eq_getElem hy)
      obtain ⟨g', b', c', ha', hg', c0', hlm', hr'⟩ := (h'.kept hbl) i ls[i] (List.getElem?_eq_getElem hy)
      subst ha
      subst ha'
      have hx0 : (0 : Int) ≤ (i : Int) := Int.natCast_nonneg _
      have hx1 : (i : Int) < (ls.length : Int) := by omega
      go_wp2_with fail
      go_region_held3 (fun w' => w'.cell? ⟨g, i, none⟩ = some (.slice b ls[i].length c) ∧ w'.cell? ⟨g', i, none⟩ = some (.slice b' ls[i].length c') ∧ Below wr.heap.size wr w')
        (first | (go_split_ands; ((repeat' apply And.intro) <;> first | exact keep_cell hb (by assumption) | exact bel_trans (by assumption) hb | exact bel_trans (bel_drew (by assumption)) hb)) | ((repeat' apply And.intro) <;> first | (simp [go_sem, *]; done) | exact (by repeat (first | with_reducible exact Below.refl _ _ | with_reducible assumption | with_reducible refine bel_alloc ?_ _ | with_reducible refine bel_drew ?_ | with_reducible refine bel_drewN ?_ _ | with_reducible refine bel_set ?_ (by (try simp) <;> omega) _ | with_reducible refine bel_trans ?_ (by assumption))))) ((go_at_call 19; refine (laws_eqRectS ls[i] _ _ _ _ _ (hr.kept (by repeat (first | with_reducible exact Below.refl _ _ | with_reducible assumption | with_reducible refine bel_alloc ?_ _ | with_reducible refine bel_drew ?_ | with_reducible refine bel_drewN ?_ _ | with_reducible refine bel_set ?_ (by (try simp) <;> omega) _ | with_reducible refine bel_trans ?_ (by assumption)))) (hr'.kept (by repeat (first | with_reducible exact Below.refl _ _ | with_reducible assumption | with_reducible refine bel_alloc ?_ _ | with_reducible refine bel_drew ?_ | with_reducible refine bel_drewN ?_ _ | with_reducible refine bel_set ?_ (by (try simp) <;> omega) _ | with_reducible refine bel_trans ?_ (by assumption)))) hlm).mono ?_; rintro e w1 ⟨rfl, hb⟩))
      all_goals
        go_wp2_with fail
        go_roundw
        case rel => exact ⟨i + 1, hy, by go_num, bel_trans hbl (by repeat (first | with_reducible exact Below.refl _ _ | with_reducible assumption | with_reducible refine bel_alloc ?_ _ | with_reducible refine bel_drew ?_ | with_reducible refine bel_drewN ?_ _ | with_reducible refine bel_set ?_ (by (try simp) <;> omega) _ | with_reducible refine bel_trans ?_ (by assumption)))⟩
        case measure => simp [intOf]; omega
    · have hx1 : ¬ (i : Int) < (ls.length : Int) := by omega
      go_wp2_with fail
      go_ret
      exact ⟨rfl, hbl⟩
theorem below_marked2 {B : Nat} {W w w' : World} {v : Value} {l : List Rc} (hb : Below B W w) (hB : B ≤ W.heap.size) (ho : OwnRects w B v l) (hg : w.grownBy w' v.ownBlock) : Below B W w' :=
  hb.grown hg (Nat.le_trans hB hb.size) fun k hk => (World.ownsRow.lt (show w.ownsRow B 39 4 v l.length (rowL l) from ho) k hk).1
set_option maxRecDepth 100000 in
set_option maxHeartbeats 1600000 in
theorem laws_markRectSS (ls : List (List Rc)) (B G : Nat) (f : Nat → Value) (cap : Nat) (w : World) (h : OwnSS w B G f ls) (hB : B ≤ w.heap.size) (hn : ls.length + totS ls ≤ 1048576) :
    Calls Try.prog 21 #[.slice (some ⟨G, 0, none⟩) ls.length cap, .int .i64 1] w fun e w' => e = .returned (.int .i64 (1 + 4 * (totS ls : Int))) ∧ KeptSS w w' ls.length f ∧ Below B w w' := by
  have HH := hide h
  clear h
  go_enter Try.func21, Try.ntmps21
  go_wp2_with fail
  go_loopw [1, 5] (fun s1 s5 wr => ∃ i : Nat, i ≤ ls.length ∧ s5 = .int .i64 i ∧ s1 = .int .i64 (1 + 4 * (totS (ls.take i) : Int)) ∧ wr.rowIs G 24 ls.length f ∧ Hid (∀ j l, i ≤ j → ls[j]? = some l → OwnRects wr B (f j) l) ∧ Hid (KeptSS w wr ls.length f) ∧ Below B w wr) (fun _ s5 _ => ls.length - (intOf s5).toNat)
  case atStart => exact ⟨0, Nat.zero_le _, rfl, by simp [totS], HH.out.row, fun j l _ hj => HH.out.own j l hj, fun _ _ _ ho _ => ho, Below.refl _ _⟩
  case round =>
    obtain ⟨i, hi, rfl, rfl, hrow, HO, HK, hbl⟩ := hrel
    by_cases hy : i < ls.length
    · have ho := HO.out i ls[i] (Nat.le_refl _) (List.getElem?_eq_getElem hy)
      obtain ⟨a1, c1, hv⟩ := own_slice ho
      have c0 := hrow.cell hy
      rw [hv] at c0
      have ho' := ho
      rw [hv] at ho'
      have HO1 := hide ho'
      have HV := hide hv
      have hx1 : (i : Int) < (ls.length : Int) := by omega
      have ht := totS_take ls i hy
      have ht2 := totS_le ls (i + 1)
      have ht3 := totS_le ls i
      have hli := len_tot hn _ (List.getElem_mem hy)
      have HT := hide (And.intro ht (And.intro ht2 (And.intro ht3 hli)))
      clear ho ho' hv ht ht2 ht3 hli
      go_wp2_with fail
      go_at_call 22
      refine (laws_markRectS_at (1 + 4 * (totS (ls.take i) : Int)) (by have := HT.out; omega) ls[i] _ _ B _ HO1.out (by have := HT.out; omega)).mono ?_
      rintro e w1 ⟨rfl, ho1, hg1⟩
      go_wp2_with fail
      go_roundw
      case rel =>
        refine ⟨i + 1, hy, by go_num, ?_, rowIs_grown hrow hg1 (own_ty HO1.out hrow (by decide)), fun j l hj hjl => ?_, fun base v l hv hne => ?_, below_marked2 hbl hB HO1.out hg1⟩
        · rw [HT.out.1]; congr 1; omega
        · have hjn := (List.getElem?_eq_some_iff.1 hjl).1
          have hne := HH.out.ne i j (by omega) hjn
          rw [HV.out] at hne
          exact own_marked (HO.out j l (by omega) hjl) hg1 (or_symm_ne hne)
        · have hq := hne i hy
          rw [HV.out] at hq
          exact own_marked (HK.out base v l hv hne) hg1 hq
      case measure => simp [intOf]; omega
    · obtain rfl : i = ls.length := by omega
      have hx1 : ¬ (ls.length : Int) < (ls.length : Int) := by omega
      have htk : totS (ls.take ls.length) = totS ls := by rw [List.take_length]
      go_wp2_with fail
      go_ret
      exact ⟨by first | rfl | rw [htk], HK.out, hbl⟩
end Go.Proofs.Ytldgjocjcbhkmaa
