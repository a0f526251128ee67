/- Contracts: the boundary and the perimeter (the program). -/
import Derived.Test.YtldgjocjcbhkmabEdg5
import Derived.Test.YtldgjocjcbhkmabGeo3
namespace Go.Proofs.Ytldgjocjcbhkmab
open Go.RowKit
attribute [local go_sem high] run_max2 run_min2 run_max3 run_max4
attribute [local go_sem low] cell_alloc_ite frozen_alloc_ite

theorem runsK_len (K : Nat → Int) : ∀ n i, (runsK K n i).length ≤ 80 - i
  | 0, i => by simp [runsK]
  | n + 1, i => by
    rw [runsK]
    by_cases h : i < 80
    · rw [if_pos h]
      have h1 := (endR2_spec K i).1
      have h2 := runsK_len K n (endR2 K i)
      rw [List.length_append]
      split
      · simp; omega
      · simp; omega
    · rw [if_neg h]
      simp
theorem runsAt_len (K : Nat → Int) : (runsAt K 0).length ≤ 80 := runsK_len K 80 0
theorem edgesTo_len (g : Grid) : ∀ n, (edgesTo g n).length ≤ 160 * n
  | 0 => by simp [edgesTo]
  | n + 1 => by
    have := edgesTo_len g n
    have h1 := runsAt_len (kH g n)
    have h2 := runsAt_len (kV g n)
    rw [edgesTo, List.length_append, edgesN, List.length_append, List.length_map, List.length_map]
    omega
theorem edgesL_len (g : Grid) : (edgesL g).length ≤ 12960 := edgesTo_len g 81
def bndL (g : Grid) : List Rc := sortE (edgesL g)
theorem bndL_len (g : Grid) : (bndL g).length ≤ 12960 := by rw [bndL, (sortE_perm _).length_eq]; exact edgesL_len g
theorem bndL_sum (g : Grid) : elenS (bndL g) = (sides g : Int) := by rw [bndL, elenS_perm (sortE_perm _), elenS_all]
def lineM (s : Value) (w : World) : Nat :=
  match s with
  | .pointer (some ad) => (match w.cell? ad with | some v => (41 - intOf v).toNat | none => 0)
  | _ => 0
theorem lineM_eq {b : Nat} {z : Int} {w : World} (h : w.cell? ⟨b, 0, none⟩ = some (.int .i64 z)) : lineM (.pointer (some ⟨b, 0, none⟩)) w = (41 - z).toNat := by
  show (match w.cell? ⟨b, 0, none⟩ with | some v => (41 - intOf v).toNat | none => 0) = _
  rw [h]
  rfl
theorem row_one (w : World) (v : Value) (t : TypeId) : (w.alloc (.cells #[v] t)).rowIs w.heap.size t 1 (fun _ => v) := World.rowIs_alloc w #[v] t (fun _ => v) fun i hi => by
  have : i = 0 := by simp at hi; omega
  subst this
  rfl
set_option maxRecDepth 100000 in
set_option maxHeartbeats 3200000 in
theorem impl_boundary (g : Grid) (c : Nat) (w : World) (hrow : w.rowIs c 69 6400 (gv g)) : Calls Try.prog 24 #[.pointer (some ⟨c, 0, none⟩)] w
    fun e w' => ∃ a cap, e = .returned (.slice a (bndL g).length cap) ∧ OwnE w' w.heap.size (.slice a (bndL g).length cap) (bndL g) ∧ Below w.heap.size w w' := by
  have hst : Bnd w ((((w.alloc (.cells #[.pointer (some ⟨c, 0, none⟩)] 47)).alloc (.cells #[] 38)).alloc (.cells #[.slice (some ⟨w.heap.size + 1, 0, none⟩) 0 0] 33)).alloc (.cells #[.int .i64 (-40)] 2)) c w.heap.size (w.heap.size + 1 + 1) (w.heap.size + 1 + 1 + 1) g 0 [] := by
    have h1 := row_one w (.pointer (some ⟨c, 0, none⟩)) 47
    have h3 := row_one ((w.alloc (.cells #[.pointer (some ⟨c, 0, none⟩)] 47)).alloc (.cells #[] 38)) (.slice (some ⟨w.heap.size + 1, 0, none⟩) 0 0) 33
    have h4 := row_one (((w.alloc (.cells #[.pointer (some ⟨c, 0, none⟩)] 47)).alloc (.cells #[] 38)).alloc (.cells #[.slice (some ⟨w.heap.size + 1, 0, none⟩) 0 0] 33)) (.int .i64 (-40)) 2
    have ho : OwnE ((w.alloc (.cells #[.pointer (some ⟨c, 0, none⟩)] 47)).alloc (.cells #[] 38)) w.heap.size (.slice (some ⟨w.heap.size + 1, 0, none⟩) 0 0) [] := by
      have hq := World.ownsRow_lit (base := w.heap.size) (e := 38) (size := 4) (w.alloc (.cells #[.pointer (some ⟨c, 0, none⟩)] 47)) #[] 0 (by simp) (by simp [maxLen]) rfl
      rw [World.size_alloc] at hq
      exact hq
    rw [World.size_alloc, World.size_alloc] at h3
    rw [World.size_alloc, World.size_alloc, World.size_alloc] at h4
    exact ⟨rowIs_kept hrow (by repeat (first | with_reducible exact Below.refl _ _ | with_reducible assumption | with_reducible refine bel_alloc ?_ _ | with_reducible refine bel_drew ?_ | with_reducible refine bel_drewN ?_ _ | with_reducible refine bel_set ?_ (by (try simp) <;> omega) _ | with_reducible refine bel_trans ?_ (by assumption))), ((h1.alloc _).alloc _).alloc _, h4, ⟨_, h3.alloc _, ownE_next ho (bel_alloc (bel_alloc (Below.refl _ _) _) _)⟩, by omega, (by repeat (first | with_reducible exact Below.refl _ _ | with_reducible assumption | with_reducible refine bel_alloc ?_ _ | with_reducible refine bel_drew ?_ | with_reducible refine bel_drewN ?_ _ | with_reducible refine bel_set ?_ (by (try simp) <;> omega) _ | with_reducible refine bel_trans ?_ (by assumption)))⟩
  have HST := hide hst
  clear hst
  go_enter Try.func24, Try.ntmps24
  go_wp2_with fail
  go_loopw [4] (fun s4 wr => ∃ (n b4 : Nat), n ≤ 81 ∧ s4 = .pointer (some ⟨b4, 0, none⟩) ∧ Bnd w wr c w.heap.size (w.heap.size + 1 + 1) b4 g n (edgesTo g n)) (fun s4 wr => lineM s4 wr)
  case atStart => exact ⟨0, _, by omega, rfl, HST.out⟩
  case round =>
    clear HST
    obtain ⟨n, b4, hn, rfl, hb⟩ := hrel
    have k4 := hb.ln.cell (i := 0) (by omega)
    by_cases hy : (n : Int) - 40 ≤ 40
    · have hn8 : n ≤ 80 := by omega
      have hmeas := lineM_eq k4
      have HM := hide hmeas
      clear hmeas
      go_wp2_with fail
      go_at_call 45
      refine (impl_runsH g c _ _ b4 n hn8 (edgesTo g n) (by have := edgesTo_len g n; omega) w _ hb).mono ?_
      rintro e w1 ⟨rfl, hb1⟩
      clear hb k4
      go_wp2_with fail
      go_at_call 45
      refine (impl_runsV g c _ _ b4 n hn8 _ (by have := edgesTo_len g n; have := runsAt_len (kH g n); rw [List.length_append, List.length_map]; omega) w _ hb1).mono ?_
      rintro e w2 ⟨rfl, hb2⟩
      clear hb1
      have k4 := hb2.ln.cell (i := 0) (by omega)
      have hw1 : IntKind.i64.wrap ((n : Int) - 40 + 1) = (n : Int) - 40 + 1 := IntWalk.i64_in _ (by omega)
      go_wp2_with fail
      go_roundw
      case rel =>
        have hnb := bel_alloc (Below.refl w2.heap.size w2) (.cells #[.int .i64 ((n : Int) - 40 + 1)] 2)
        have hb3 := hb2.kept hnb
        have hln := row_one w2 (.int .i64 ((n : Int) - 40 + 1)) 2
        refine ⟨n + 1, _, by omega, rfl, ⟨hb3.row, hb3.p, ?_, ?_, hb3.lo, hb3.bel⟩⟩
        · rw [show ((n + 1 : Nat) : Int) - 40 = (n : Int) - 40 + 1 from by omega]
          exact hln
        · rw [edgesTo, edgesN, ← List.append_assoc]
          exact hb3.out
      case measure =>
        rw [HM.out, lineM_eq (z := (n : Int) - 40 + 1) (by simp [go_sem])]
        omega
    · obtain rfl : n = 81 := by omega
      obtain ⟨v, hv, ho⟩ := hb.out
      obtain ⟨av, cv, rfl⟩ := ownE_slice ho
      have k3 := hv.cell (i := 0) (by omega)
      have hlen : (bndL g).length = (edgesL g).length := (sortE_perm _).length_eq
      have HLEN := hide hlen
      have ho' : OwnE _ w.heap.size (.slice av (edgesL g).length cv) (edgesL g) := ho
      have hll : (edgesTo g 81).length = (edgesL g).length := rfl
      have HO := hide ho'
      have HB := hide hb
      rw [hll] at k3 hv
      clear ho' ho hll hlen hb
      go_wp2_with fail
      go_at_call 52
      refine (slices_Sort_edges (edgesL g) av cv w.heap.size _ HO.out (by have := edgesL_len g; omega)).mono ?_
      rintro e w2 ⟨rfl, ho2, hg2⟩
      have hv2 := grown_row hv hg2 (ownE_ty HO.out hv (by decide))
      have k5 := hv2.cell (i := 0) (by omega)
      have hbf : Below w.heap.size w w2 := Below.grown HB.out.bel hg2 HB.out.bel.size (ownE_lo HO.out)
      have HO2 := hide ho2
      clear k3 hv ho2 hg2
      go_wp2_with fail
      go_ret
      rw [← HLEN.out]
      exact ⟨av, cv, rfl, HO2.out, hbf⟩
theorem elen_elenF {r : Rc} (h : vEdge r.x0 r.y0 r.x1 r.y1 = true) : elenF r.x0 r.y0 r.x1 r.y1 = elen r := by
  obtain ⟨_, _, h9⟩ := vEdge_iff.1 h
  rw [elenF, if_pos h]
  simp only [absI, elen]
  omega
theorem mk_valid {n : Nat} (hn : n ≤ 80) {q : Nat × Nat × Int} (h1 : q.1 < q.2.1) (h2 : q.2.1 ≤ 80) : vEdge (mkH n q).x0 (mkH n q).y0 (mkH n q).x1 (mkH n q).y1 = true ∧ vEdge (mkV n q).x0 (mkV n q).y0 (mkV n q).x1 (mkV n q).y1 = true := by
  rw [vEdge_iff, vEdge_iff]
  unfold mkH mkV
  constructor
  · split <;> simp only <;> refine ⟨⟨by omega, by omega⟩, ⟨by omega, by omega⟩, .inr ⟨by omega, by first | trivial | omega⟩⟩
  · split <;> simp only <;> refine ⟨⟨by omega, by omega⟩, ⟨by omega, by omega⟩, .inl ⟨by first | trivial | omega, by omega⟩⟩
theorem edgesTo_valid (g : Grid) : ∀ n, n ≤ 81 → ∀ r ∈ edgesTo g n, vEdge r.x0 r.y0 r.x1 r.y1 = true
  | 0, _, r, h => by simp [edgesTo] at h
  | n + 1, hn, r, h => by
    rw [edgesTo, List.mem_append, edgesN, List.mem_append, List.mem_map, List.mem_map] at h
    rcases h with h | ⟨q, hq, rfl⟩ | ⟨q, hq, rfl⟩
    · exact edgesTo_valid g n (by omega) r h
    · obtain ⟨a, b, _⟩ := runsAt_mem _ 80 0 (by omega) q hq
      exact (mk_valid (by omega) a b).1
    · obtain ⟨a, b, _⟩ := runsAt_mem _ 80 0 (by omega) q hq
      exact (mk_valid (by omega) a b).2
theorem bndL_valid (g : Grid) : ∀ r ∈ bndL g, vEdge r.x0 r.y0 r.x1 r.y1 = true := fun r h => edgesTo_valid g 81 (Nat.le_refl _) r ((sortE_perm _).mem_iff.1 h)
theorem elenS_take {l : List Rc} {i : Nat} (h : i < l.length) : elenS (l.take (i + 1)) = elenS (l.take i) + elen l[i] := by
  rw [List.take_succ_eq_append_getElem h, elenS_append]
  simp [elenS]
theorem elen_bounds {r : Rc} (h : vEdge r.x0 r.y0 r.x1 r.y1 = true) : 0 ≤ elen r ∧ elen r ≤ 80 := by
  obtain ⟨h1, h2, h9⟩ := vEdge_iff.1 h
  simp only [elen]
  omega
theorem elenS_bounds {l : List Rc} (h : ∀ r ∈ l, vEdge r.x0 r.y0 r.x1 r.y1 = true) : ∀ i, i ≤ l.length → 0 ≤ elenS (l.take i) ∧ elenS (l.take i) ≤ 80 * i
  | 0, _ => by simp [elenS]
  | i + 1, hi => by
    have := elenS_bounds h i (by omega)
    have := elen_bounds (h l[i] (List.getElem_mem (by omega)))
    rw [elenS_take (by omega)]
    omega
end Go.Proofs.Ytldgjocjcbhkmab
