/- Contracts: the closures of the boundary, and the runs (the program). -/
import Derived.Test.YtldgjocjcbhkmabEdg1
import Derived.Test.YtldgjocjcbhkmabRegV
namespace Go.Proofs.Ytldgjocjcbhkmab
open Go.RowKit
attribute [local go_sem low] cell_alloc_ite frozen_alloc_ite

set_option maxRecDepth 100000 in
set_option maxHeartbeats 400000 in
theorem impl_step (p q : Bool) (w : World) : Calls Try.prog 47 #[.bool p, .bool q] w fun e w' => e = .returned (.int .i64 (stepV p q)) ∧ w = w' := by
  cases p <;> cases q
  all_goals
    go_enter Try.func47, Try.ntmps47
    go_wp2
    go_ret
    exact ⟨rfl, rfl⟩
set_option maxRecDepth 100000 in
set_option maxHeartbeats 1600000 in
theorem impl_bnd1 (g : Grid) (c t b1 b4 n i : Nat) (W : World) (hrow : W.rowIs c t 6400 (gv g)) (h1 : W.cell? ⟨b1, 0, none⟩ = some (.pointer (some ⟨c, 0, none⟩))) (h4 : W.cell? ⟨b4, 0, none⟩ = some (.int .i64 ((n : Int) - 40))) (hn : n ≤ 80) (hi : i ≤ 80) :
    Calls Try.prog 46 #[.int .i64 (i : Int), .pointer (some ⟨b1, 0, none⟩), .pointer (some ⟨b4, 0, none⟩)] W fun e w' => e = .returned (.int .i64 (kH g n i)) ∧ Below W.heap.size W w' := by
  have hw1 : IntKind.i64.wrap ((i : Int) - 40) = (i : Int) - 40 := IntWalk.i64_in _ (by omega)
  have hw2 : IntKind.i64.wrap ((n : Int) - 40 - 1) = (n : Int) - 40 - 1 := IntWalk.i64_in _ (by omega)
  go_enter Try.func46, Try.ntmps46
  go_wp2_with fail
  go_region_held3 (fun w' => w'.cell? ⟨b1, 0, none⟩ = some (.pointer (some ⟨c, 0, none⟩)) ∧ w'.cell? ⟨b4, 0, none⟩ = some (.int .i64 ((n : Int) - 40)) ∧ Below W.heap.size W w')
    (first | (go_split_ands; ((repeat' apply And.intro) <;> first | exact keep_cell hb (by assumption) | exact bel_trans (by assumption) hb | exact bel_trans (bel_drew (by assumption)) hb)) | ((repeat' apply And.intro) <;> first | (simp [go_sem, *]; done) | exact (by repeat (first | with_reducible exact Below.refl _ _ | with_reducible assumption | with_reducible refine bel_alloc ?_ _ | with_reducible refine bel_drew ?_ | with_reducible refine bel_drewN ?_ _ | with_reducible refine bel_set ?_ (by (try simp) <;> omega) _ | with_reducible refine bel_trans ?_ (by assumption))))) ((first | (go_at_call 48; refine (impl_has g c t _ _ _ (rowIs_kept hrow (by repeat (first | with_reducible exact Below.refl _ _ | with_reducible assumption | with_reducible refine bel_alloc ?_ _ | with_reducible refine bel_drew ?_ | with_reducible refine bel_drewN ?_ _ | with_reducible refine bel_set ?_ (by (try simp) <;> omega) _ | with_reducible refine bel_trans ?_ (by assumption))))).mono ?_; rintro e w1 ⟨rfl, hb⟩) | (go_at_call 47; refine (impl_step _ _ _).mono ?_; rintro e w1 ⟨rfl, rfl⟩)))
  all_goals
    go_wp2_with fail
    go_ret
    exact ⟨rfl, (by repeat (first | with_reducible exact Below.refl _ _ | with_reducible assumption | with_reducible refine bel_alloc ?_ _ | with_reducible refine bel_drew ?_ | with_reducible refine bel_drewN ?_ _ | with_reducible refine bel_set ?_ (by (try simp) <;> omega) _ | with_reducible refine bel_trans ?_ (by assumption)))⟩
set_option maxRecDepth 100000 in
set_option maxHeartbeats 1600000 in
theorem impl_bnd3 (g : Grid) (c t b1 b4 n i : Nat) (W : World) (hrow : W.rowIs c t 6400 (gv g)) (h1 : W.cell? ⟨b1, 0, none⟩ = some (.pointer (some ⟨c, 0, none⟩))) (h4 : W.cell? ⟨b4, 0, none⟩ = some (.int .i64 ((n : Int) - 40))) (hn : n ≤ 80) (hi : i ≤ 80) :
    Calls Try.prog 50 #[.int .i64 (i : Int), .pointer (some ⟨b1, 0, none⟩), .pointer (some ⟨b4, 0, none⟩)] W fun e w' => e = .returned (.int .i64 (kV g n i)) ∧ Below W.heap.size W w' := by
  have hw1 : IntKind.i64.wrap ((i : Int) - 40) = (i : Int) - 40 := IntWalk.i64_in _ (by omega)
  have hw2 : IntKind.i64.wrap ((n : Int) - 40 - 1) = (n : Int) - 40 - 1 := IntWalk.i64_in _ (by omega)
  go_enter Try.func50, Try.ntmps50
  go_wp2_with fail
  go_region_held3 (fun w' => w'.cell? ⟨b1, 0, none⟩ = some (.pointer (some ⟨c, 0, none⟩)) ∧ w'.cell? ⟨b4, 0, none⟩ = some (.int .i64 ((n : Int) - 40)) ∧ Below W.heap.size W w')
    (first | (go_split_ands; ((repeat' apply And.intro) <;> first | exact keep_cell hb (by assumption) | exact bel_trans (by assumption) hb | exact bel_trans (bel_drew (by assumption)) hb)) | ((repeat' apply And.intro) <;> first | (simp [go_sem, *]; done) | exact (by repeat (first | with_reducible exact Below.refl _ _ | with_reducible assumption | with_reducible refine bel_alloc ?_ _ | with_reducible refine bel_drew ?_ | with_reducible refine bel_drewN ?_ _ | with_reducible refine bel_set ?_ (by (try simp) <;> omega) _ | with_reducible refine bel_trans ?_ (by assumption))))) ((first | (go_at_call 48; refine (impl_has g c t _ _ _ (rowIs_kept hrow (by repeat (first | with_reducible exact Below.refl _ _ | with_reducible assumption | with_reducible refine bel_alloc ?_ _ | with_reducible refine bel_drew ?_ | with_reducible refine bel_drewN ?_ _ | with_reducible refine bel_set ?_ (by (try simp) <;> omega) _ | with_reducible refine bel_trans ?_ (by assumption))))).mono ?_; rintro e w1 ⟨rfl, hb⟩) | (go_at_call 47; refine (impl_step _ _ _).mono ?_; rintro e w1 ⟨rfl, rfl⟩)))
  all_goals
    go_wp2_with fail
    go_ret
    exact ⟨rfl, (by repeat (first | with_reducible exact Below.refl _ _ | with_reducible assumption | with_reducible refine bel_alloc ?_ _ | with_reducible refine bel_drew ?_ | with_reducible refine bel_drewN ?_ _ | with_reducible refine bel_set ?_ (by (try simp) <;> omega) _ | with_reducible refine bel_trans ?_ (by assumption)))⟩
theorem ownE_ty {W : World} {B b t n : Nat} {v : Value} {l : List Rc} {f : Nat → Value} (h : OwnE W B v l) (hr : W.rowIs b t n f) (ht : t ≠ 38) : v.ownBlock = none ∨ v.ownBlock ≠ some b := by
  rcases h.2 with ⟨rfl, _⟩ | ⟨g, cap, cur, rfl, _, hg, _⟩
  · exact .inl rfl
  · refine .inr fun e => ht ?_
    simp only [Value.ownBlock, Option.some.injEq] at e
    subst e
    obtain ⟨c, hc, _⟩ := hr
    rw [hc] at hg
    simp only [Option.some.injEq, Obj.cells.injEq] at hg
    exact hg.2.1
theorem rows_ne {W : World} {b b' t t' n n' : Nat} {f f' : Nat → Value} (h : W.rowIs b t n f) (h' : W.rowIs b' t' n' f') (ht : t ≠ t') : b ≠ b' := fun e => ht (by
  subst e
  obtain ⟨c, hc, _⟩ := h
  obtain ⟨c', hc', _⟩ := h'
  rw [hc] at hc'
  simp only [Option.some.injEq, Obj.cells.injEq] at hc'
  exact hc'.2.1)
/-- Where the boundary's loop stands: the set, its own variables, the edges so far. -/
structure Bnd (w0 W : World) (c b1 b3 b4 : Nat) (g : Grid) (n : Nat) (l : List Rc) : Prop where
  row : W.rowIs c 69 6400 (gv g)
  p : W.rowIs b1 47 1 (fun _ => .pointer (some ⟨c, 0, none⟩))
  ln : W.rowIs b4 2 1 (fun _ => .int .i64 ((n : Int) - 40))
  out : ∃ v, W.rowIs b3 33 1 (fun _ => v) ∧ OwnE W w0.heap.size v l
  lo : w0.heap.size ≤ b3
  bel : Below w0.heap.size w0 W
theorem Bnd.kept {w0 W W' : World} {c b1 b3 b4 n : Nat} {g : Grid} {l : List Rc} (h : Bnd w0 W c b1 b3 b4 g n l) (hb : Below W.heap.size W W') : Bnd w0 W' c b1 b3 b4 g n l := by
  obtain ⟨v, hv, ho⟩ := h.out
  exact ⟨rowIs_kept h.row hb, rowIs_kept h.p hb, rowIs_kept h.ln hb, ⟨v, rowIs_kept hv hb, ownE_next ho hb⟩, h.lo, bel_trans h.bel hb⟩
theorem grown_row {W W' : World} {b t n : Nat} {f : Nat → Value} {row : Option Nat} (h : W.rowIs b t n f) (hg : W.grownBy W' row) (hne : row = none ∨ row ≠ some b) : W'.rowIs b t n f :=
  h.of_block (hg.block b h.lt (fun e => by
    rcases hne with h1 | h1
    · rw [h1] at e; exact absurd e (by simp)
    · exact h1 e.symm))
set_option maxRecDepth 100000 in
set_option maxHeartbeats 1600000 in
theorem impl_bnd2 (g : Grid) (c b1 b3 b4 n : Nat) (x y k : Int) (l : List Rc) (hl : l.length ≤ 100000) (w0 W : World) (h : Bnd w0 W c b1 b3 b4 g n l) :
    Calls Try.prog 49 #[.int .i64 x, .int .i64 y, .int .i64 k, .pointer (some ⟨b3, 0, none⟩), .pointer (some ⟨b4, 0, none⟩)] W fun e w' => e = .returned (.tuple #[]) ∧ Bnd w0 w' c b1 b3 b4 g n (l ++ [if k < 0 then ⟨y, (n : Int) - 40, x, (n : Int) - 40⟩ else ⟨x, (n : Int) - 40, y, (n : Int) - 40⟩]) := by
  obtain ⟨v, hv, ho⟩ := h.out
  obtain ⟨av, cv, rfl⟩ := ownE_slice ho
  have k3 := hv.cell (i := 0) (by omega)
  have k4 := h.ln.cell (i := 0) (by omega)
  have kf := hv.frozen 0
  have hsz := h.bel.size
  have hb3 := h.lo
  by_cases hk : k < 0
  · rw [if_pos hk]
    have hnw := bel_alloc (Below.refl W.heap.size W) (.cells #[.int .i64 (y), .int .i64 ((n : Int) - 40), .int .i64 (x), .int .i64 ((n : Int) - 40)] 38)
    have HO := hide (ownE_next ho hnw)
    have HV := hide (rowIs_kept hv hnw)
    have HB := hide h
    clear h ho hnw
    go_enter Try.func49, Try.ntmps49
    go_wp2_with (at_builtin; refine wpList_append_edges rfl _ _ rfl w0.heap.size _ l rfl HO.out (some ⟨W.heap.size, 0, none⟩) [⟨y, (n : Int) - 40, x, (n : Int) - 40⟩] _ 1 rfl (edges_new W ⟨y, (n : Int) - 40, x, (n : Int) - 40⟩) (by simp; omega) (by simp; omega) ?_; intro v' w2 ho2 hg2; obtain ⟨a5, c5, rfl⟩ := ownE_slice ho2; have hv2 := grown_row HV.out hg2 (ownE_ty HO.out HV.out (by decide)); have c3 := hv2.cell (i := 0) (by omega); have f3 := hv2.frozen 0)
    refine bodyPost_end (v := .tuple #[]) (by simp [results, Try.results49, go_sem]) rfl ⟨rfl, ?_⟩
    have hnw := bel_alloc (Below.refl W.heap.size W) (.cells #[.int .i64 (y), .int .i64 ((n : Int) - 40), .int .i64 (x), .int .i64 ((n : Int) - 40)] 38)
    have hrow2 := grown_row (rowIs_kept HB.out.row hnw) hg2 (ownE_ty HO.out (rowIs_kept HB.out.row hnw) (by decide))
    have hp2 := grown_row (rowIs_kept HB.out.p hnw) hg2 (ownE_ty HO.out (rowIs_kept HB.out.p hnw) (by decide))
    have hl2 := grown_row (rowIs_kept HB.out.ln hnw) hg2 (ownE_ty HO.out (rowIs_kept HB.out.ln hnw) (by decide))
    have hty := ownE_ty ho2 hv2 (by decide)
    have hon := ho2
    unfold OwnE at hon
    rw [List.length_append, List.length_singleton] at hty hon
    refine ⟨hrow2.setOther (a := ⟨b3, 0, none⟩) (rows_ne hrow2 hv2 (by decide)) _, hp2.setOther (a := ⟨b3, 0, none⟩) (rows_ne hp2 hv2 (by decide)) _, hl2.setOther (a := ⟨b3, 0, none⟩) (rows_ne hl2 hv2 (by decide)) _, ⟨.slice a5 (l.length + 1) c5, (hv2.set 0 _).congr fun i hi => ?_, ?_⟩, hb3, ?_⟩
    · obtain rfl : i = 0 := by omega
      rfl
    · unfold OwnE
      rw [List.length_append, List.length_singleton]
      exact World.ownsRow.kept hon (grown_set w2 b3 0 _) hty
    · exact (Below.grown ((HB.out.bel.trans (hnw.mono hsz))) hg2 (by simp; omega) (ownE_lo HO.out)).setCell hb3 _
  · rw [if_neg hk]
    have hnw := bel_alloc (Below.refl W.heap.size W) (.cells #[.int .i64 (x), .int .i64 ((n : Int) - 40), .int .i64 (y), .int .i64 ((n : Int) - 40)] 38)
    have HO := hide (ownE_next ho hnw)
    have HV := hide (rowIs_kept hv hnw)
    have HB := hide h
    clear h ho hnw
    go_enter Try.func49, Try.ntmps49
    go_wp2_with (at_builtin; refine wpList_append_edges rfl _ _ rfl w0.heap.size _ l rfl HO.out (some ⟨W.heap.size, 0, none⟩) [⟨x, (n : Int) - 40, y, (n : Int) - 40⟩] _ 1 rfl (edges_new W ⟨x, (n : Int) - 40, y, (n : Int) - 40⟩) (by simp; omega) (by simp; omega) ?_; intro v' w2 ho2 hg2; obtain ⟨a5, c5, rfl⟩ := ownE_slice ho2; have hv2 := grown_row HV.out hg2 (ownE_ty HO.out HV.out (by decide)); have c3 := hv2.cell (i := 0) (by omega); have f3 := hv2.frozen 0)
    refine bodyPost_end (v := .tuple #[]) (by simp [results, Try.results49, go_sem]) rfl ⟨rfl, ?_⟩
    have hnw := bel_alloc (Below.refl W.heap.size W) (.cells #[.int .i64 (x), .int .i64 ((n : Int) - 40), .int .i64 (y), .int .i64 ((n : Int) - 40)] 38)
    have hrow2 := grown_row (rowIs_kept HB.out.row hnw) hg2 (ownE_ty HO.out (rowIs_kept HB.out.row hnw) (by decide))
    have hp2 := grown_row (rowIs_kept HB.out.p hnw) hg2 (ownE_ty HO.out (rowIs_kept HB.out.p hnw) (by decide))
    have hl2 := grown_row (rowIs_kept HB.out.ln hnw) hg2 (ownE_ty HO.out (rowIs_kept HB.out.ln hnw) (by decide))
    have hty := ownE_ty ho2 hv2 (by decide)
    have hon := ho2
    unfold OwnE at hon
    rw [List.length_append, List.length_singleton] at hty hon
    refine ⟨hrow2.setOther (a := ⟨b3, 0, none⟩) (rows_ne hrow2 hv2 (by decide)) _, hp2.setOther (a := ⟨b3, 0, none⟩) (rows_ne hp2 hv2 (by decide)) _, hl2.setOther (a := ⟨b3, 0, none⟩) (rows_ne hl2 hv2 (by decide)) _, ⟨.slice a5 (l.length + 1) c5, (hv2.set 0 _).congr fun i hi => ?_, ?_⟩, hb3, ?_⟩
    · obtain rfl : i = 0 := by omega
      rfl
    · unfold OwnE
      rw [List.length_append, List.length_singleton]
      exact World.ownsRow.kept hon (grown_set w2 b3 0 _) hty
    · exact (Below.grown ((HB.out.bel.trans (hnw.mono hsz))) hg2 (by simp; omega) (ownE_lo HO.out)).setCell hb3 _
set_option maxRecDepth 100000 in
set_option maxHeartbeats 1600000 in
theorem impl_bnd4 (g : Grid) (c b1 b3 b4 n : Nat) (x y k : Int) (l : List Rc) (hl : l.length ≤ 100000) (w0 W : World) (h : Bnd w0 W c b1 b3 b4 g n l) :
    Calls Try.prog 51 #[.int .i64 x, .int .i64 y, .int .i64 k, .pointer (some ⟨b3, 0, none⟩), .pointer (some ⟨b4, 0, none⟩)] W fun e w' => e = .returned (.tuple #[]) ∧ Bnd w0 w' c b1 b3 b4 g n (l ++ [if k > 0 then ⟨(n : Int) - 40, y, (n : Int) - 40, x⟩ else ⟨(n : Int) - 40, x, (n : Int) - 40, y⟩]) := by
  obtain ⟨v, hv, ho⟩ := h.out
  obtain ⟨av, cv, rfl⟩ := ownE_slice ho
  have k3 := hv.cell (i := 0) (by omega)
  have k4 := h.ln.cell (i := 0) (by omega)
  have kf := hv.frozen 0
  have hsz := h.bel.size
  have hb3 := h.lo
  by_cases hk : k > 0
  · rw [if_pos hk]
    have hnw := bel_alloc (Below.refl W.heap.size W) (.cells #[.int .i64 ((n : Int) - 40), .int .i64 (y), .int .i64 ((n : Int) - 40), .int .i64 (x)] 38)
    have HO := hide (ownE_next ho hnw)
    have HV := hide (rowIs_kept hv hnw)
    have HB := hide h
    clear h ho hnw
    go_enter Try.func51, Try.ntmps51
    go_wp2_with (at_builtin; refine wpList_append_edges rfl _ _ rfl w0.heap.size _ l rfl HO.out (some ⟨W.heap.size, 0, none⟩) [⟨(n : Int) - 40, y, (n : Int) - 40, x⟩] _ 1 rfl (edges_new W ⟨(n : Int) - 40, y, (n : Int) - 40, x⟩) (by simp; omega) (by simp; omega) ?_; intro v' w2 ho2 hg2; obtain ⟨a5, c5, rfl⟩ := ownE_slice ho2; have hv2 := grown_row HV.out hg2 (ownE_ty HO.out HV.out (by decide)); have c3 := hv2.cell (i := 0) (by omega); have f3 := hv2.frozen 0)
    refine bodyPost_end (v := .tuple #[]) (by simp [results, Try.results51, go_sem]) rfl ⟨rfl, ?_⟩
    have hnw := bel_alloc (Below.refl W.heap.size W) (.cells #[.int .i64 ((n : Int) - 40), .int .i64 (y), .int .i64 ((n : Int) - 40), .int .i64 (x)] 38)
    have hrow2 := grown_row (rowIs_kept HB.out.row hnw) hg2 (ownE_ty HO.out (rowIs_kept HB.out.row hnw) (by decide))
    have hp2 := grown_row (rowIs_kept HB.out.p hnw) hg2 (ownE_ty HO.out (rowIs_kept HB.out.p hnw) (by decide))
    have hl2 := grown_row (rowIs_kept HB.out.ln hnw) hg2 (ownE_ty HO.out (rowIs_kept HB.out.ln hnw) (by decide))
    have hty := ownE_ty ho2 hv2 (by decide)
    have hon := ho2
    unfold OwnE at hon
    rw [List.length_append, List.length_singleton] at hty hon
    refine ⟨hrow2.setOther (a := ⟨b3, 0, none⟩) (rows_ne hrow2 hv2 (by decide)) _, hp2.setOther (a := ⟨b3, 0, none⟩) (rows_ne hp2 hv2 (by decide)) _, hl2.setOther (a := ⟨b3, 0, none⟩) (rows_ne hl2 hv2 (by decide)) _, ⟨.slice a5 (l.length + 1) c5, (hv2.set 0 _).congr fun i hi => ?_, ?_⟩, hb3, ?_⟩
    · obtain rfl : i = 0 := by omega
      rfl
    · unfold OwnE
      rw [List.length_append, List.length_singleton]
      exact World.ownsRow.kept hon (grown_set w2 b3 0 _) hty
    · exact (Below.grown ((HB.out.bel.trans (hnw.mono hsz))) hg2 (by simp; omega) (ownE_lo HO.out)).setCell hb3 _
  · rw [if_neg hk]
    have hnw := bel_alloc (Below.refl W.heap.size W) (.cells #[.int .i64 ((n : Int) - 40), .int .i64 (x), .int .i64 ((n : Int) - 40), .int .i64 (y)] 38)
    have HO := hide (ownE_next ho hnw)
    have HV := hide (rowIs_kept hv hnw)
    have HB := hide h
    clear h ho hnw
    go_enter Try.func51, Try.ntmps51
    go_wp2_with (at_builtin; refine wpList_append_edges rfl _ _ rfl w0.heap.size _ l rfl HO.out (some ⟨W.heap.size, 0, none⟩) [⟨(n : Int) - 40, x, (n : Int) - 40, y⟩] _ 1 rfl (edges_new W ⟨(n : Int) - 40, x, (n : Int) - 40, y⟩) (by simp; omega) (by simp; omega) ?_; intro v' w2 ho2 hg2; obtain ⟨a5, c5, rfl⟩ := ownE_slice ho2; have hv2 := grown_row HV.out hg2 (ownE_ty HO.out HV.out (by decide)); have c3 := hv2.cell (i := 0) (by omega); have f3 := hv2.frozen 0)
    refine bodyPost_end (v := .tuple #[]) (by simp [results, Try.results51, go_sem]) rfl ⟨rfl, ?_⟩
    have hnw := bel_alloc (Below.refl W.heap.size W) (.cells #[.int .i64 ((n : Int) - 40), .int .i64 (x), .int .i64 ((n : Int) - 40), .int .i64 (y)] 38)
    have hrow2 := grown_row (rowIs_kept HB.out.row hnw) hg2 (ownE_ty HO.out (rowIs_kept HB.out.row hnw) (by decide))
    have hp2 := grown_row (rowIs_kept HB.out.p hnw) hg2 (ownE_ty HO.out (rowIs_kept HB.out.p hnw) (by decide))
    have hl2 := grown_row (rowIs_kept HB.out.ln hnw) hg2 (ownE_ty HO.out (rowIs_kept HB.out.ln hnw) (by decide))
    have hty := ownE_ty ho2 hv2 (by decide)
    have hon := ho2
    unfold OwnE at hon
    rw [List.length_append, List.length_singleton] at hty hon
    refine ⟨hrow2.setOther (a := ⟨b3, 0, none⟩) (rows_ne hrow2 hv2 (by decide)) _, hp2.setOther (a := ⟨b3, 0, none⟩) (rows_ne hp2 hv2 (by decide)) _, hl2.setOther (a := ⟨b3, 0, none⟩) (rows_ne hl2 hv2 (by decide)) _, ⟨.slice a5 (l.length + 1) c5, (hv2.set 0 _).congr fun i hi => ?_, ?_⟩, hb3, ?_⟩
    · obtain rfl : i = 0 := by omega
      rfl
    · unfold OwnE
      rw [List.length_append, List.length_singleton]
      exact World.ownsRow.kept hon (grown_set w2 b3 0 _) hty
    · exact (Below.grown ((HB.out.bel.trans (hnw.mono hsz))) hg2 (by simp; omega) (ownE_lo HO.out)).setCell hb3 _
end Go.Proofs.Ytldgjocjcbhkmab
