/- The program's region of a set of cells. -/
import Derived.Test.YtldgjocjcbhkmaaWlk4
import Derived.Test.YtldgjocjcbhkmaaWlk6
import Derived.BigQuiet
import Derived.Deep.CutBlock
import Derived.Deep.DeepCutAuto
namespace Go.Proofs.Ytldgjocjcbhkmaa
open Go.RowKit Go.BigFrame
attribute [local go_sem low] cell_alloc_ite frozen_alloc_ite

def rcV (r : Rc) : List Value := [.int .i64 r.x0, .int .i64 r.y0, .int .i64 r.x1, .int .i64 r.y1]
theorem rcV_one (r : Rc) : ∀ u ∈ rcV r, u.oneCell' = true := fun u hu => by
  simp [rcV] at hu
  rcases hu with rfl | rfl | rfl | rfl <;> rfl
def rowL (l : List Rc) : List Value := l.flatMap rcV
theorem rowL_append (l m : List Rc) : rowL (l ++ m) = rowL l ++ rowL m := by simp [rowL]
/-- The slice v is an own row (all blocks from base on) of the rectangles l. -/
def OwnRects (w : World) (base : Nat) (v : Value) (l : List Rc) : Prop := w.ownsRow base 39 4 v l.length (rowL l)
/-- The cells of a new block lie where the block is. -/
theorem cells_new (w : World) (C : Array Value) (t : TypeId) (xs : List Value) (h : C.toList = xs) : ∀ j u, xs[j]? = some u → (w.alloc (.cells C t)).cell? ((⟨w.heap.size, 0, none⟩ : Addr).add j) = some u := by
  intro j u hj
  have hu : C[j]? = some u := by rw [← Array.getElem?_toList, h]; exact hj
  rw [Addr.add_mid, Nat.zero_add, World.cell?_alloc_new]
  exact hu
/-- The rectangles of the band from y to e, of the runs that start before column x. -/
def bandTill (g : Grid) (y e x : Nat) : List Rc := (runsTo (g y) x).map fun q => ⟨(q.1 : Int) - 40, (y : Int) - 40, (q.2 : Int) - 40, (e : Int) - 40⟩
theorem bandTill_zero (g : Grid) (y e : Nat) : bandTill g y e 0 = [] := rfl
theorem bandTill_skip {g : Grid} {y e x : Nat} (h : atR (g y) x = false) : bandTill g y e (x + 1) = bandTill g y e x := by rw [bandTill, runsTo_skip h, bandTill]
theorem bandTill_run {g : Grid} {y e x : Nat} (hp : prevR (g y) x = false) (h : atR (g y) x = true) : bandTill g y e (endR (g y) x + 1) = bandTill g y e x ++ [⟨(x : Int) - 40, (y : Int) - 40, (endR (g y) x : Int) - 40, (e : Int) - 40⟩] := by
  rw [bandTill, runsTo_run hp h, List.map_append, bandTill]; rfl
theorem bandTill_all {g : Grid} {y e x : Nat} (h1 : 80 ≤ x) (h2 : x ≤ 81) : bandTill g y e x = bandRects g y e := by
  rw [bandTill, bandRects, runs]
  rcases Nat.lt_or_ge x 81 with h | h
  · obtain rfl : x = 80 := by omega
    rw [runsTo_skip (x := 80) (by simp [atR])]
  · obtain rfl : x = 81 := by omega
    rfl
theorem bandTill_len (g : Grid) (y e x : Nat) : (bandTill g y e x).length ≤ x := by
  rw [bandTill, List.length_map]
  induction x with
  | zero => simp [runsTo]
  | succ x ih => rw [runsTo, List.length_append]; split <;> simp <;> omega
theorem arr_size : (Try.prog.info? 101).map (·.size) = some 80 := by kernel_rfl
theorem rowV_info (g : Grid) (i : Nat) : (Try.prog.info? 101).map (·.size) = some (rowV g i).length := by rw [arr_size]; simp [rowV]
theorem rect_info : (Try.prog.info? 39).map (fun i => (i.zero, i.size, i.bytes)) = some (some (.agg #[.int .i64 0, .int .i64 0, .int .i64 0, .int .i64 0]), 4, 32) := by kernel_rfl
set_option maxRecDepth 100000 in
set_option maxHeartbeats 1600000 in
theorem impl_region (g : Grid) (b t : Nat) (w : World) (hrow : w.rowIs b t 6400 (gv g)) : Calls Try.prog 89 #[.pointer (some ⟨b, 0, none⟩)] w
    fun e w' => ∃ v, e = .returned v ∧ OwnRects w' w.heap.size v (regionL g) ∧ Below w.heap.size w w' := by
  have hb0 := hrow.lt
  go_enter Try.func89, Try.ntmps89
  go_wp2_with fail
  go_loopw [3, 4] (fun sv sy wr => ∃ (y : Nat) (pre : List Rc), y ≤ 80 ∧ sy = .int .i64 y ∧ OwnRects wr w.heap.size sv pre ∧ pre ++ regAt g y = regionL g ∧ Below w.heap.size w wr) (fun _ y _ => (80 - intOf y).toNat)
  case atStart => exact ⟨0, [], by omega, rfl, World.ownsRow_lit (base := w.heap.size) (e := 39) (size := 4) w #[] 0 (Nat.le_refl _) (by simp [maxLen]) rfl, by rw [regAt_zero, List.nil_append], (by repeat (first | with_reducible exact Below.refl _ _ | with_reducible assumption | with_reducible refine bel_alloc ?_ _ | with_reducible refine bel_drew ?_ | with_reducible refine bel_drewN ?_ _ | with_reducible refine bel_set ?_ (by (try simp) <;> omega) _ | with_reducible refine bel_trans ?_ (by assumption)))⟩
  case round =>
    obtain ⟨y, pre, hy80, rfl, hown, hpre, hbl⟩ := hrel
    by_cases hy : y < 80
    · have hrow1 : _root_.Go.World.rowIs _ b t 6400 (gv g) := hrow.of_block (hbl.block b hb0)
      have hyI : decide ((y : Int) < 80) = true := decide_eq_true (by omega)
      go_upto_block 2 with fail
      go_cut [5] (fun se wz => (∃ n, wz = World.drewN wr n) ∧ se = .int .i64 (bandE g y))
      case first =>
        go_wp2_with fail
        go_loopw [5] (fun se wz => (∃ n, wz = World.drewN wr n) ∧ ∃ e : Nat, y < e ∧ e ≤ 80 ∧ se = .int .i64 e ∧ ∀ i, y < i → i < e → i < 80 ∧ rowEq g i y = true) (fun e _ => (80 - intOf e).toNat)
        case atStart => exact ⟨⟨0, rfl⟩, y + 1, by omega, by omega, by go_num, fun i h1 h2 => absurd h2 (by omega)⟩
        case round =>
          obtain ⟨⟨n0, rfl⟩, e, he1, he2, rfl, hall⟩ := hrel
          have HA := hide hall
          clear hall
          by_cases he : e < 80
          · have hld : ∀ i, i < 80 → ∀ w', (∃ n, w' = (wr.drewN n0).drewN n) → w'.rangeAt b (i * 80) (rowV g i) := by
              rintro i hi w' ⟨n, rfl⟩
              exact row_range (w := World.drewN (World.drewN wr n0) n) hrow1 hi
            have HLD := hide hld
            clear hld
            have hd : ((e : Int) < 80) := (by omega)
            cases hq : rowEq g e y
            · go_wp2_with fail
              refine wp_region_quiet_lit (by kernel_rfl) (by kernel_rfl) ?_
              iterate 7 (go_big_quiet_step (fail))
              go_big_quiet_want
              refine quiet_load_row 101 _ rfl b (e * 80) rfl (rowV g e) _ (HLD.out e he) Try.underlying101 rfl (rowV_info g e) ?_
              go_big_quiet_on
              simp only [Act.put, List.setIfInBounds_toArray, List.set_cons_succ, List.set_cons_zero]
              iterate 4 (go_big_quiet_step (fail))
              go_big_quiet_want
              refine quiet_load_row 101 _ rfl b (y * 80) rfl (rowV g y) _ (HLD.out y hy) Try.underlying101 rfl (rowV_info g y) ?_
              go_big_quiet_on
              simp only [Act.put, List.setIfInBounds_toArray, List.set_cons_succ, List.set_cons_zero]
              go_big_quiet_want
              refine quiet_eql_row 101 101 _ _ rfl (rowV g e).toArray (rowV g y).toArray rfl rfl _ (by kernel_rfl) (eq_rows' g e y) ?_
              go_big_quiet_on
              rw [hq]
              simp only [Act.put, List.setIfInBounds_toArray, List.set_cons_succ, List.set_cons_zero]
              go_big_quiet_step (fail)
              refine wpQuiet_nil ?_
              intro _ hw'
              obtain ⟨nq, hw''⟩ := hw'
              subst hw''
              go_wp2_with fail
              go_meet
              exact ⟨⟨_, by first | rfl | exact World.drewN_drewN _ _ _⟩, by rw [band_unique he1 HA.out fun _ => hq]⟩
            · go_wp2_with fail
              refine wp_region_quiet_lit (by kernel_rfl) (by kernel_rfl) ?_
              iterate 7 (go_big_quiet_step (fail))
              go_big_quiet_want
              refine quiet_load_row 101 _ rfl b (e * 80) rfl (rowV g e) _ (HLD.out e he) Try.underlying101 rfl (rowV_info g e) ?_
              go_big_quiet_on
              simp only [Act.put, List.setIfInBounds_toArray, List.set_cons_succ, List.set_cons_zero]
              iterate 4 (go_big_quiet_step (fail))
              go_big_quiet_want
              refine quiet_load_row 101 _ rfl b (y * 80) rfl (rowV g y) _ (HLD.out y hy) Try.underlying101 rfl (rowV_info g y) ?_
              go_big_quiet_on
              simp only [Act.put, List.setIfInBounds_toArray, List.set_cons_succ, List.set_cons_zero]
              go_big_quiet_want
              refine quiet_eql_row 101 101 _ _ rfl (rowV g e).toArray (rowV g y).toArray rfl rfl _ (by kernel_rfl) (eq_rows' g e y) ?_
              go_big_quiet_on
              rw [hq]
              simp only [Act.put, List.setIfInBounds_toArray, List.set_cons_succ, List.set_cons_zero]
              go_big_quiet_step (fail)
              refine wpQuiet_nil ?_
              intro _ hw'
              obtain ⟨nq, hw''⟩ := hw'
              subst hw''
              go_wp2_with fail
              go_roundw
              case rel =>
                refine ⟨⟨_, by first | rfl | exact World.drewN_drewN _ _ _⟩, e + 1, by omega, by omega, by go_num, fun i h1 h2 => ?_⟩
                by_cases hie : i = e
                · subst hie; exact ⟨he, hq⟩
                · exact HA.out i h1 (by omega)
              case measure => simp [intOf]; omega
          · obtain rfl : e = 80 := by omega
            go_wp2_with fail
            go_quiet (fail)
            go_wp2_with fail
            go_meet
            exact ⟨⟨_, by first | rfl | exact World.drewN_drewN _ _ _⟩, by rw [band_unique he1 HA.out fun h => absurd h (by omega)]⟩
      case rest =>
        obtain ⟨⟨n0, rfl⟩, rfl⟩ := hcut
        have he1 := (band_spec g y).1
        have he2 := band_le (g := g) hy
        have hst := regAt_step g hy
        generalize bandE g y = e at he1 he2 hst ⊢
        have HST := hide hst
        clear hst
        have hown1 : OwnRects (World.drewN wr n0) w.heap.size u3 pre := hown
        have hbl1 : Below w.heap.size w (World.drewN wr n0) := bel_drewN hbl n0
        clear hown hbl hrow1
        generalize World.drewN wr n0 = wq at hown1 hbl1 ⊢
        go_wp2_with fail
        go_loopw [3, 6] (fun sv sx wz => ∃ x : Nat, x ≤ 81 ∧ sx = .int .i64 x ∧ OwnRects wz w.heap.size sv (pre ++ bandTill g y e x) ∧ prevR (g y) x = false ∧ Below w.heap.size w wz) (fun _ x _ => (81 - intOf x).toNat)
        case atStart => exact ⟨0, by omega, rfl, by rw [bandTill_zero, List.append_nil]; exact hown1, rfl, hbl1⟩
        case round =>
          obtain ⟨x, hx81, rfl, hown, hprev, hbl⟩ := hrel
          have HPR := hide hprev
          clear hprev
          have hrow1 : _root_.Go.World.rowIs _ b t 6400 (gv g) := hrow.of_block (hbl.block b hb0)
          by_cases hx : x < 80
          · have hcell := hrow1.cell (i := y * 80 + x) (by omega)
            rw [gv_at g hx] at hcell
            cases hgx : g y x
            · rw [hgx] at hcell
              have hat : atR (g y) x = false := by simp [atR, hgx]
              have HAT := hide hat
              clear hat hgx
              go_wp2_with fail
              go_roundw
              case rel => exact ⟨x + 1, by omega, by go_num, by rw [bandTill_skip HAT.out]; exact hown, by rw [prevR_succ]; exact HAT.out, hbl⟩
              case measure => simp [intOf]; omega
            · rw [hgx] at hcell
              have hat : atR (g y) x = true := by simp [atR, hgx, hx]
              have HAT := hide hat
              clear hat hgx
              go_upto_block 6 with fail
              go_cut [6] (fun s6 wz => (∃ n, wz = World.drewN wr n) ∧ s6 = .int .i64 (endR (g y) x))
              case first =>
                go_wp2_with fail
                go_loopw [6] (fun s6 wz => (∃ n, wz = World.drewN wr n) ∧ ∃ k : Nat, x ≤ k ∧ k ≤ 80 ∧ s6 = .int .i64 k ∧ ∀ j, x ≤ j → j < k → atR (g y) j = true) (fun k _ => (80 - intOf k).toNat)
                case atStart => exact ⟨⟨0, rfl⟩, x, Nat.le_refl _, by omega, rfl, fun j h1 h2 => absurd h2 (by omega)⟩
                case round =>
                  obtain ⟨⟨n0, rfl⟩, k, hk1, hk2, rfl, hall⟩ := hrel
                  have HA := hide hall
                  clear hall
                  by_cases hk : k < 80
                  · have hcell := hrow1.cell (i := y * 80 + k) (by omega)
                    rw [gv_at g hk] at hcell
                    have hd : ((k : Int) < 80) := (by omega)
                    cases hgk : g y k
                    · rw [hgk] at hcell
                      have hat : atR (g y) k = false := by simp [atR, hgk]
                      have HATk := hide hat
                      clear hat hgk
                      go_wp2_with fail
                      go_meet
                      exact ⟨⟨_, by first | rfl | exact World.drewN_drewN _ _ _⟩, by rw [end_unique hk1 HA.out HATk.out]⟩
                    · rw [hgk] at hcell
                      have hat : atR (g y) k = true := by simp [atR, hgk, hk]
                      have HATk := hide hat
                      clear hat hgk
                      go_wp2_with fail
                      go_roundw
                      case rel =>
                        refine ⟨⟨_, by first | rfl | exact World.drewN_drewN _ _ _⟩, k + 1, by omega, by omega, by go_num, fun j h1 h2 => ?_⟩
                        by_cases hj : j = k
                        · subst hj; exact HATk.out
                        · exact HA.out j h1 (by omega)
                      case measure => simp [intOf]; omega
                  · obtain rfl : k = 80 := by omega
                    go_wp2_with fail
                    go_meet
                    exact ⟨⟨_, by first | rfl | exact World.drewN_drewN _ _ _⟩, by rw [end_unique hk1 HA.out (by simp [atR])]⟩
              case rest =>
                obtain ⟨⟨n0, rfl⟩, rfl⟩ := hcut
                have hx1 := end_gt HAT.out
                have hx2 := end_le (p := g y) (a := x) (by omega)
                have hrun := bandTill_run (e := e) HPR.out HAT.out
                have hpr : prevR (g y) (endR (g y) x + 1) = false := by rw [prevR_succ]; exact (end_spec (g y) x).2.2
                generalize endR (g y) x = z at hx1 hx2 hrun hpr ⊢
                have HRUN := hide hrun
                have HPR2 := hide hpr
                clear hrun hpr hrow1
                have hown2 : OwnRects (World.drewN wr n0) w.heap.size u3 (pre ++ bandTill g y e x) := hown
                have hbl2 : Below w.heap.size w (World.drewN wr n0) := bel_drewN hbl n0
                clear hown hbl hcell
                generalize World.drewN wr n0 = wq at hown2 hbl2 ⊢
                obtain ⟨ii, hii, hiz⟩ := Option.map_eq_some_iff.1 rect_info
                simp only [Prod.mk.injEq] at hiz
                obtain ⟨hz, hsz, hby⟩ := hiz
                have hlen1 := bandTill_len g y e x
                have hlen : (pre ++ bandTill g y e x).length ≤ 2000000 := by
                  have hr := region_length g
                  rw [← hpre, List.length_append] at hr
                  rw [List.length_append]
                  omega
                have HLEN := hide hlen
                clear hlen hlen1
                have hown3 : wq.ownsRow w.heap.size 39 4 u3 (pre ++ bandTill g y e x).length (rowL (pre ++ bandTill g y e x)) := hown2
                go_wp2_with (at_builtin; refine wpList_append_own _ rfl _ _ 24 rfl w.heap.size 39 ii (.agg #[.int .i64 0, .int .i64 0, .int .i64 0, .int .i64 0]) 4 32 Try.underlying24 hii hz hsz hby rfl (by decide) _ _ _ rfl (hown3.alloc _) ⟨wq.heap.size, 0, none⟩ 1 1 (rcV ⟨(x : Int) - 40, (y : Int) - 40, (z : Int) - 40, (e : Int) - 40⟩) rfl rfl (cells_new _ _ _ _ rfl) (rcV_one _) (by have := HLEN.out; unfold maxLen; omega) (by have := HLEN.out; omega) (by have := hbl2.size; simp; omega) ?_; intro v' w2 ho2 hg2 _)
                go_roundw
                case rel =>
                  refine ⟨z + 1, by omega, by go_num, ?_, HPR2.out, grown_below (hbl2.alloc hbl2.size _) (hown3.alloc _) hg2⟩
                  rw [HRUN.out, ← List.append_assoc, OwnRects, rowL_append, List.length_append]
                  exact ho2
                case measure => simp [intOf]; omega
          · go_wp2_with fail
            go_roundw
            case rel => 
              refine ⟨e, pre ++ bandTill g y e x, he2, rfl, hown, ?_, hbl⟩
              rw [bandTill_all (by omega) hx81, List.append_assoc, ← HST.out]
              exact hpre
            case measure => simp [intOf]; omega
    · go_wp2
      go_ret
      refine ⟨_, rfl, ?_, hbl⟩
      rw [regAt_end g (by omega), List.append_nil] at hpre
      rw [← hpre]
      exact hown
end Go.Proofs.Ytldgjocjcbhkmaa
