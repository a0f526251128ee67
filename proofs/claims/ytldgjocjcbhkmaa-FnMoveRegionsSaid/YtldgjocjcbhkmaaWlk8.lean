/- The reference's region of a list of flags. -/
import Derived.Test.YtldgjocjcbhkmaaWlk5
import Derived.Test.YtldgjocjcbhkmaaWlk7
import Derived.Deep.RegionHeld3
import Derived.Deep.AppendLies
namespace Go.Proofs.Ytldgjocjcbhkmaa
open Go.RowKit
attribute [local go_sem low] cell_alloc_ite frozen_alloc_ite

theorem own_below {w w' : World} {base e size n : Nat} {v : Value} {xs : List Value} (h : w.ownsRow base e size v n xs) (hb : Below w.heap.size w w') : w'.ownsRow base e size v n xs :=
  h.kept (row := none) ⟨hb.os, hb.tape, hb.output, hb.size, fun k hk _ => hb.block k hk⟩ (by
    cases h0 : v.ownBlock
    · exact .inl rfl
    · exact .inr (by simp))
theorem flat_inj : ∀ {l m : List (Nat × Nat)}, flat l = flat m → l = m
  | [], [], _ => rfl
  | [], b :: m, h => by simp [flat] at h
  | a :: l, [], h => by simp [flat] at h
  | a :: l, b :: m, h => by
    simp only [flat, List.flatMap_cons, List.cons_append, List.nil_append, List.cons.injEq] at h
    obtain ⟨h1, h2, h3⟩ := h
    rw [flat_inj h3, Prod.ext h1 h2]
theorem changes_eq {g : Grid} {i j : Nat} : decide (changes (g i) = changes (g j)) = rowEq g i j := by
  rw [Bool.eq_iff_iff, rowEq_iff, decide_eq_true_eq]
  constructor
  · intro h
    rw [← flat_runs, ← flat_runs] at h
    exact runs_inj (flat_inj h)
  · intro h
    rw [← flat_runs, ← flat_runs, runs_congr h]
theorem flat_length : ∀ l : List (Nat × Nat), (flat l).length = 2 * l.length
  | [] => rfl
  | a :: l => by
    have := flat_length l
    simp only [flat, List.flatMap_cons, List.length_append, List.length_cons, List.length_nil] at this ⊢
    omega
theorem flat_fst : ∀ (l : List (Nat × Nat)) (j : Nat) (h : j < l.length), (flat l)[2 * j]? = some l[j].1
  | [], j, h => by simp at h
  | a :: l, 0, _ => rfl
  | a :: l, j + 1, h => by
    have h2 : j < l.length := by simpa using h
    have := flat_fst l j h2
    rw [show 2 * (j + 1) = 2 * j + 1 + 1 from by omega]
    simpa [flat] using this
theorem flat_snd : ∀ (l : List (Nat × Nat)) (j : Nat) (h : j < l.length), (flat l)[2 * j + 1]? = some l[j].2
  | [], j, h => by simp at h
  | a :: l, 0, _ => rfl
  | a :: l, j + 1, h => by
    have h2 : j < l.length := by simpa using h
    have := flat_snd l j h2
    rw [show 2 * (j + 1) + 1 = 2 * j + 1 + 1 + 1 from by omega]
    simpa [flat] using this
theorem band_take (g : Grid) (y e j : Nat) (h : j < (runs (g y)).length) : (bandRects g y e).take (j + 1) = (bandRects g y e).take j ++ [⟨((runs (g y))[j].1 : Int) - 40, (y : Int) - 40, ((runs (g y))[j].2 : Int) - 40, (e : Int) - 40⟩] := by
  have h2 : j < (bandRects g y e).length := by rw [bandRects, List.length_map]; exact h
  rw [List.take_succ_eq_append_getElem h2]
  simp [bandRects]
theorem IntsAt.mono {B C : Nat} {w : World} {a : Option Addr} {l : List Nat} (h : IntsAt B w a l) (hc : B ≤ C) : IntsAt C w a l := fun j k hj => by
  obtain ⟨g, ha, hg, c⟩ := h j k hj
  exact ⟨g, ha, Nat.lt_of_lt_of_le hg hc, c⟩
theorem rowL_one (r : Rc) : rowL [r] = rcV r := by simp [rowL]
theorem IntsAt.alloc {B : Nat} {w : World} {a : Option Addr} {l : List Nat} (h : IntsAt B w a l) (o : Obj) : IntsAt B (w.alloc o) a l := fun j k hj => by
  obtain ⟨g, ha, hg, c⟩ := h j k hj
  exact ⟨g, ha, hg, keep_alloc c o⟩
theorem IntsAt.grown_drew {w w' : World} {a : Option Addr} {l : List Nat} {row : Option Nat} {B : Nat} (h : IntsAt B w a l) (hg : w.drew.grownBy w' row) (hr : ∀ k, a = some ⟨k, 0, none⟩ → row ≠ some k) : IntsAt w'.heap.size w' a l := fun j k hj => by
  obtain ⟨g, ha, _, c⟩ := h j k hj
  have hlt := World.block_lt_of_cell? _ _ c
  exact ⟨g, ha, Nat.lt_of_lt_of_le hlt hg.size, (hg.cell_far ⟨g, j, none⟩ hlt (Ne.symm (hr g ha))).trans c⟩
theorem spec_l03Runs_at (g : Grid) (b t i : Nat) (hi : i < 80) (w : World) (hrow : w.rowIs b t 6400 (gv g)) : Calls Try.prog 136 #[.slice (some ⟨b, 0, none⟩) 6400 6400, .int .i64 ((i : Int) - 40)] w
    fun e w' => ∃ a cap, e = .returned (.slice a (changes (g i)).length cap) ∧ IntsAt w'.heap.size w' a (changes (g i)) ∧ (∀ k, a = some ⟨k, 0, none⟩ → w.heap.size ≤ k) ∧ Below w.heap.size w w' :=
  (spec_l03Runs g b t i hi w hrow).mono fun e w' ⟨v, he, ho, hb⟩ => by
    have hge : ∀ k, v.ownBlock = some k → w.heap.size ≤ k := fun k hk => (ho.lt k hk).1
    obtain ⟨a, cap, rfl, hi⟩ := ints_of_own ho
    exact ⟨a, cap, he, hi, fun k hk => hge k (by rw [hk]; rfl), hb⟩
set_option maxRecDepth 100000 in
set_option maxHeartbeats 800000 in
theorem spec_l03Canon (g : Grid) (b t : Nat) (w : World) (hrow : w.rowIs b t 6400 (gv g)) : Calls Try.prog 78 #[.slice (some ⟨b, 0, none⟩) 6400 6400] w
    fun e w' => ∃ v, e = .returned v ∧ OwnRects w' w.heap.size v (regionL g) ∧ Below w.heap.size w w' := by
  have hb0 := hrow.lt
  go_enter Try.func78, Try.ntmps78
  go_wp2_with fail
  go_loopw [3, 4] (fun sv sy wr => ∃ (y : Nat) (pre : List Rc), y ≤ 80 ∧ sy = .int .i64 ((y : Int) - 40) ∧ OwnRects wr w.heap.size sv pre ∧ pre ++ regAt g y = regionL g ∧ Below w.heap.size w wr) (fun _ y _ => (40 - intOf y).toNat)
  case atStart => exact ⟨0, [], by omega, rfl, World.ownsRow_lit (base := w.heap.size) (e := 39) (size := 4) w #[] 0 (Nat.le_refl _) (by simp [maxLen]) rfl, by rw [regAt_zero, List.nil_append], (by repeat (first | with_reducible exact Below.refl _ _ | with_reducible assumption | with_reducible refine bel_alloc ?_ _ | with_reducible refine bel_drew ?_ | with_reducible refine bel_drewN ?_ _ | with_reducible refine bel_set ?_ (by (try simp) <;> omega) _ | with_reducible refine bel_trans ?_ (by assumption)))⟩
  case round =>
    obtain ⟨y, pre, hy80, rfl, hown, hpre, hbl⟩ := hrel
    by_cases hy : y < 80
    · have hrow1 : _root_.Go.World.rowIs _ b t 6400 (gv g) := hrow.of_block (hbl.block b hb0)
      have hyI : (y : Int) - 40 < 40 := by omega
      go_upto_block 2 with (go_at_call 136; refine (spec_l03Runs_at g _ _ y hy _ hrow1).mono ?_; rintro e w1 ⟨a5, c5, rfl, hi5, hge5, hb5⟩)
      have hsz1 := hbl.size
      have hsz5 := hb5.size
      have hfar : ∀ k, u3.ownBlock = some k → k < wr.heap.size := fun k hk => (World.ownsRow.lt (show wr.ownsRow w.heap.size 39 4 u3 pre.length (rowL pre) from hown) k hk).2
      have hown1 : OwnRects w1 w.heap.size u3 pre := own_below hown hb5
      have hbl1 : Below w.heap.size w w1 := hbl.trans (hb5.mono hsz1)
      have hap : ∀ k, a5 = some ⟨k, 0, none⟩ → u3.ownBlock ≠ some k := fun k hk hq => by
        have h1 := hfar k hq
        have h2 := hge5 k hk
        omega
      have HAP := hide hap
      clear hap
      have hrow2 : _root_.Go.World.rowIs _ b t 6400 (gv g) := hrow.of_block (hbl1.block b hb0)
      obtain ⟨rl, hrl⟩ : ∃ rl, rl = changes (g y) := ⟨_, rfl⟩
      rw [← hrl] at hi5 ⊢
      have HRL := hide hrl
      have hl5 : rl.length ≤ 81 := by rw [hrl]; exact changesTo_len _ _
      have hn5 : rl.length = 2 * (runs (g y)).length := by rw [hrl, ← flat_runs, flat_length]
      have HN5 := hide hn5
      clear hrl hn5 hge5 hfar hown hbl hrow1 hb5
      go_cut [6] (fun s6 wz => s6 = .int .i64 ((bandE g y : Int) - 40) ∧ Below w1.heap.size w1 wz)
      case first =>
        go_wp2_with fail
        go_loopw [6] (fun s6 wz => (∃ e : Nat, y < e ∧ e ≤ 80 ∧ s6 = .int .i64 ((e : Int) - 40) ∧ ∀ i, y < i → i < e → i < 80 ∧ rowEq g i y = true) ∧ Below w1.heap.size w1 wz) (fun e _ => (40 - intOf e).toNat)
        case atStart => exact ⟨⟨y + 1, by omega, by omega, by go_num, fun i h1 h2 => absurd h2 (by omega)⟩, Below.refl _ _⟩
        case round =>
          obtain ⟨⟨e, he1, he2, rfl, hall⟩, hbz⟩ := hrel
          have HA := hide hall
          clear hall
          have hszz := hbz.size
          have hrow3 : _root_.Go.World.rowIs _ b t 6400 (gv g) := hrow2.of_block (hbz.block b (by omega))
          by_cases he : e < 80
          · have hd : (e : Int) - 40 < 40 := by omega
            cases hq : rowEq g e y
            · have hdq : decide (changes (g e) = rl) = false := by rw [HRL.out, changes_eq, hq]
              have HQ := hide hq
              have HDQ := hide hdq
              clear hq hdq
              go_wp2_with (first
                | (go_at_call 136; refine (spec_l03Runs_at g _ _ e he _ hrow3).mono ?_; rintro e1 w2 ⟨a6, c6, rfl, hi6, _, hb6⟩; have hsz6 := hb6.size; have hc6 := hi5.below (hbz.trans (hb6.mono hszz)) (Nat.le_refl _))
                | (go_at_call 137; refine (spec_l03Equal _ _ _ _ _ _ _ hi6 (hc6.mono (by omega)) (by have := changesTo_len (g e) 81; unfold changes; omega)).mono ?_; rintro e1 w3 ⟨he1, hb7⟩; rw [HDQ.out] at he1; subst he1))
              go_meet
              exact ⟨by rw [band_unique he1 HA.out fun _ => HQ.out], (hbz.trans (hb6.mono hszz)).trans (hb7.mono (by omega))⟩
            · have hdq : decide (changes (g e) = rl) = true := by rw [HRL.out, changes_eq, hq]
              have HQ := hide hq
              have HDQ := hide hdq
              clear hq hdq
              go_wp2_with (first
                | (go_at_call 136; refine (spec_l03Runs_at g _ _ e he _ hrow3).mono ?_; rintro e1 w2 ⟨a6, c6, rfl, hi6, _, hb6⟩; have hsz6 := hb6.size; have hc6 := hi5.below (hbz.trans (hb6.mono hszz)) (Nat.le_refl _))
                | (go_at_call 137; refine (spec_l03Equal _ _ _ _ _ _ _ hi6 (hc6.mono (by omega)) (by have := changesTo_len (g e) 81; unfold changes; omega)).mono ?_; rintro e1 w3 ⟨he1, hb7⟩; rw [HDQ.out] at he1; subst he1))
              go_roundw
              case rel =>
                refine ⟨⟨e + 1, by omega, by omega, by go_num, fun i h1 h2 => ?_⟩, (hbz.trans (hb6.mono hszz)).trans (hb7.mono (by omega))⟩
                by_cases hie : i = e
                · subst hie; exact ⟨he, HQ.out⟩
                · exact HA.out i h1 (by omega)
              case measure => simp [intOf]; omega
          · obtain rfl : e = 80 := by omega
            go_wp2_with fail
            go_meet
            exact ⟨by rw [band_unique he1 HA.out fun h => absurd h (by omega)], hbz⟩
      case rest =>
        obtain ⟨rfl, hb6⟩ := hcut
        have he1 := (band_spec g y).1
        have he2 := band_le (g := g) hy
        have hst := regAt_step g hy
        have hbt := band_take g y (bandE g y)
        have hbl0 : (bandRects g y (bandE g y)).length = (runs (g y)).length := by rw [bandRects, List.length_map]
        generalize bandE g y = e at he1 he2 hst hbt hbl0 ⊢
        have HST := hide hst
        have HBT := hide hbt
        have HBL := hide hbl0
        clear hst hbt hbl0
        have hown2 : OwnRects wc w.heap.size u3 pre := own_below hown1 hb6
        have hbl2 : Below w.heap.size w wc := hbl1.trans (hb6.mono (by have := hbl1.size; omega))
        have hi6 : IntsAt wc.heap.size wc a5 rl := (hi5.below hb6 (Nat.le_refl _)).mono hb6.size
        clear hown1 hbl1 hi5 hb6 hrow2
        go_wp2_with fail
        go_loopw [3, 7] (fun sv sj wz => ∃ j m : Nat, m = 2 * j ∧ j ≤ (runs (g y)).length ∧ sj = .int .i64 m ∧ OwnRects wz w.heap.size sv (pre ++ (bandRects g y e).take j) ∧ IntsAt wz.heap.size wz a5 rl ∧ (∀ k, a5 = some ⟨k, 0, none⟩ → sv.ownBlock ≠ some k) ∧ Below w.heap.size w wz) (fun _ j _ => (rl.length - (intOf j).toNat))
        case atStart => exact ⟨0, 0, rfl, Nat.zero_le _, rfl, by rw [List.take_zero, List.append_nil]; exact hown2, hi6, HAP.out, hbl2⟩
        case round =>
          obtain ⟨j, m, hm, hj, rfl, hown, hi5, hap, hbl⟩ := hrel
          have HM := hide hm
          have HAP := hide hap
          clear hm hap hown2 hi6 hbl2
          by_cases hjn : j < (runs (g y)).length
          · have hj3 : (m : Int) + 1 < (rl.length : Int) := by have := HM.out; have := HN5.out; omega
            have hm0 : m ≤ 81 := by omega
            have hg1 : rl[m]? = some (runs (g y))[j].1 := by rw [HRL.out, ← flat_runs, HM.out]; exact flat_fst _ j hjn
            have hg2 : rl[m + 1]? = some (runs (g y))[j].2 := by rw [HRL.out, ← flat_runs, HM.out]; exact flat_snd _ j hjn
            obtain ⟨g2, ha5, hlt2, c0⟩ := hi5 m _ hg1
            obtain ⟨g3, ha6, _, c1⟩ := hi5 (m + 1) _ hg2
            rw [ha5] at ha6
            simp only [Option.some.injEq, Addr.mk.injEq, and_true] at ha6
            subst ha6 ha5
            have hbt := HBT.out j hjn
            generalize (runs (g y))[j].1 = q1 at c0 hbt
            generalize (runs (g y))[j].2 = q2 at c1 hbt
            have HB := hide hbt
            have hap := HAP.out g2 rfl
            have hlen : (pre ++ (bandRects g y e).take j).length ≤ 2000000 := by
              have hr := region_length g
              rw [← hpre, HST.out] at hr
              simp only [List.length_append] at hr ⊢
              have := List.length_take_le j (bandRects g y e)
              have := List.length_take_le' j (bandRects g y e)
              omega
            have HLEN := hide hlen
            clear hbt hg1 hg2 hlen
            obtain ⟨ii, hii, hiz⟩ := Option.map_eq_some_iff.1 rect_info
            simp only [Prod.mk.injEq] at hiz
            obtain ⟨hz, hsz, hby⟩ := hiz
            have hown3 : _root_.Go.World.ownsRow _ w.heap.size 39 4 u3 (pre ++ (bandRects g y e).take j).length (rowL (pre ++ (bandRects g y e).take j)) := hown
            have hL1 : (pre ++ (bandRects g y e).take j).length + 1 ≤ maxLen := by have := HLEN.out; unfold maxLen; omega
            have hL2 : ((pre ++ (bandRects g y e).take j).length + 1) * 32 ≤ 140737488355328 := by have := HLEN.out; omega
            have hL3 := hbl.size
            have HL1 := hide hL1
            have HL2 := hide hL2
            have HL3 := hide hL3
            clear hL1 hL2 hL3
            have hx0 : (0 : Int) ≤ (m : Int) := Int.natCast_nonneg _
            have hx1 : (m : Int) < (rl.length : Int) := by omega
            have hx2 : (0 : Int) ≤ (m : Int) + 1 := by omega
            go_wp2_with fail
            have hx3 : IntKind.i64.wrap ((m : Int) + 1) = (m : Int) + 1 := IntWalk.i64_in _ (by omega)
            have hx4 : ((m : Int) + 1).toNat = m + 1 := by omega
            go_region_held3 (fun w' => w'.cell? ⟨g2, m, none⟩ = some (.int .i64 ((q1 : Int) - 40)) ∧ w'.cell? ⟨g2, m + 1, none⟩ = some (.int .i64 ((q2 : Int) - 40)))
              (first
                | go_keep
                | (go_split_ands
                   refine ⟨?_, ?_⟩
                   · (rw [hgrow.cell_far _ (by simp; clear hx3; omega) (Ne.symm hap)]; assumption)
                   · (rw [hgrow.cell_far _ (by simp; clear hx3; omega) (Ne.symm hap)]; assumption)))
              ((refine step_append_lies _ (by rfl) _ _ _ (by rfl) w.heap.size 39 ii _ 4 32 Try.underlying24 hii hz hsz hby rfl (by decide) u3 _ _ (by rfl) ((hown3.alloc _).drew)
                  ⟨wr.heap.size, 0, none⟩ 1 1 (rcV ⟨(q1 : Int) - 40, (y : Int) - 40, (q2 : Int) - 40, (e : Int) - 40⟩) (by rfl) (by rfl) (cells_new _ _ _ _ rfl) (rcV_one _)
                  (by decide) HL1.out HL2.out (by simp; exact Nat.le_succ_of_le HL3.out) (wr.heap.size + 1) (by simp) ?_; intro gg cap w1 hown1 hgrow hat hlt))
            go_wp2_with fail
            go_roundw
            case rel =>
              refine ⟨j + 1, m + 2, by have := HM.out; omega, by omega, by go_num, ?_, ?_, ?_, ?_⟩
              · rw [HB.out, ← List.append_assoc, OwnRects, rowL_append, rowL_one]
                simp only [List.length_append, List.length_take, List.length_cons, List.length_nil] at hown1 ⊢
                exact hown1
              · exact (hi5.alloc _).grown_drew hgrow fun k hk => by
                  simp only [Option.some.injEq, Addr.mk.injEq, and_true] at hk
                  subst hk
                  exact hap
              · intro k hk hq
                simp only [Option.some.injEq, Addr.mk.injEq, and_true] at hk
                subst hk
                simp only [Value.ownBlock, Option.some.injEq] at hq
                subst hq
                rcases hat with h | h
                · exact hap h
                · omega
              · exact grown_below (bel_drew (hbl.alloc hbl.size _)) ((hown3.alloc _).drew) hgrow
            case measure => simp [intOf]; omega
          · have hj1 : ¬ m + 1 < rl.length := by have := HM.out; have := HN5.out; omega
            have hm0 : m ≤ 81 := by have := HM.out; have := HN5.out; omega
            have hj3 : ¬ ((m : Int) + 1 < (rl.length : Int)) := by omega
            clear hj1
            go_wp2_with fail
            go_roundw
            case rel =>
              refine ⟨e, pre ++ bandRects g y e, he2, rfl, ?_, ?_, hbl⟩
              · have := hown
                rw [List.take_of_length_le (by rw [HBL.out]; omega)] at this
                exact this
              · rw [List.append_assoc, ← HST.out]
                exact hpre
            case measure => simp [intOf]; omega
    · go_wp2
      go_ret
      refine ⟨_, rfl, ?_, hbl⟩
      rw [regAt_end g (by omega), List.append_nil] at hpre
      rw [← hpre]
      exact hown
end Go.Proofs.Ytldgjocjcbhkmaa
