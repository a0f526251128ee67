/- Contracts: the sides of a set (the reference). -/
import Derived.Test.YtldgjocjcbhkmabEdgP
import Derived.Test.YtldgjocjcbhkmabDrw4
import Derived.Test.YtldgjocjcbhkmabRegF
import Derived.Deep.CutBlock
namespace Go.Proofs.Ytldgjocjcbhkmab
open Go.RowKit
attribute [local go_sem low] cell_alloc_ite frozen_alloc_ite

def OwnE (w : World) (base : Nat) (v : Value) (l : List Rc) : Prop := w.ownsRow base 38 4 v l.length (rowL l)
theorem edge_info : (Try.prog.info? 38).map (fun i => (i.zero, i.size, i.bytes)) = some (some (.agg #[.int .i64 0, .int .i64 0, .int .i64 0, .int .i64 0]), 4, 32) := by kernel_rfl
theorem ownE_next {w w' : World} {base : Nat} {v : Value} {l : List Rc} (h : OwnE w base v l) (hb : Below w.heap.size w w') : OwnE w' base v l := own_below h hb
theorem ownE_slice {w : World} {base : Nat} {v : Value} {l : List Rc} (h : OwnE w base v l) : ∃ a cap, v = .slice a l.length cap := by
  rcases h.2 with ⟨rfl, hl⟩ | ⟨g, cap, cur, rfl, _⟩
  · exact ⟨none, 0, by rw [hl]⟩
  · exact ⟨_, _, rfl⟩
theorem ownE_lo {w : World} {base : Nat} {v : Value} {l : List Rc} (h : OwnE w base v l) : ∀ k, v.ownBlock = some k → base ≤ k := fun k hk =>
  (World.ownsRow.lt (show w.ownsRow base 38 4 v l.length (rowL l) from h) k hk).1
theorem edges_at {w : World} {base n cap : Nat} {a : Option Addr} {l : List Rc} (h : OwnE w base (.slice a n cap) l) : RectsAt w.heap.size w a l := by
  intro i r hi
  have hl : i < l.length := (List.getElem?_eq_some_iff.1 hi).1
  rcases h.2 with ⟨_, h0⟩ | ⟨g, cap', cur, hq, _, hg, _, _, _, htk⟩
  · omega
  · simp only [Value.slice.injEq] at hq
    obtain ⟨rfl, _, _⟩ := hq
    obtain ⟨r0, r1, r2, r3⟩ := rowL_get l i hl
    obtain rfl : l[i] = r := by rw [List.getElem?_eq_getElem hl] at hi; exact Option.some.inj hi
    have hc : ∀ j, j < l.length * 4 → w.cell? ⟨g, j, none⟩ = (rowL l)[j]? := fun j hj => by
      rw [cell_of_row w g j cur 38 (0, 0) hg, ← htk, List.getElem?_take, if_pos hj]
      simp
    exact ⟨g, rfl, (Array.getElem?_eq_some_iff.1 hg).1, (hc _ (by omega)).trans r0, (hc _ (by omega)).trans r1, (hc _ (by omega)).trans r2, (hc _ (by omega)).trans r3⟩
theorem edges_new (w : World) (r : Rc) : RectsAt (w.alloc (.cells #[.int .i64 r.x0, .int .i64 r.y0, .int .i64 r.x1, .int .i64 r.y1] 38)).heap.size (w.alloc (.cells #[.int .i64 r.x0, .int .i64 r.y0, .int .i64 r.x1, .int .i64 r.y1] 38)) (some ⟨w.heap.size, 0, none⟩) [r] := by
  intro i q hq
  have : i = 0 := by
    have := (List.getElem?_eq_some_iff.1 hq).1
    simp at this
    omega
  subst this
  simp only [List.getElem?_cons_zero, Option.some.injEq] at hq
  subst hq
  exact ⟨w.heap.size, rfl, by simp, by simp [go_sem], by simp [go_sem], by simp [go_sem], by simp [go_sem]⟩
theorem wpList_append_edges {w : World} {ops : Array Oper} {rest : List Oper} {o : Oper} {a : Act} {Q : Exit → Act → World → Prop} (hgd : o.guard = none) (s x : Operand)
    (ho : o.op = .call { callee := .builtin .append, args := #[s, x], argTypes := #[33, 33] })
    (base : Nat) (v : Value) (l : List Rc) (hs : a.eval s = v) (hown : OwnE w base v l)
    (ad : Option Addr) (m : List Rc) (B c : Nat) (hx : a.eval x = .slice ad m.length c) (hm : RectsAt B w ad m) (hlen : l.length + m.length ≤ 3000000) (hbase : base ≤ w.heap.size)
    (h : ∀ v' w', OwnE w' base v' (l ++ m) → w.grownBy w' v.ownBlock → wpList Try.prog ops Q rest (a.put o.dst v') w') : wpList Try.prog ops Q (o :: rest) a w := by
  obtain ⟨ii, hii, hiz⟩ := Option.map_eq_some_iff.1 edge_info
  simp only [Prod.mk.injEq] at hiz
  obtain ⟨hz, hsz, hby⟩ := hiz
  unfold OwnE at hown h
  by_cases hne : m = []
  · subst hne
    simp only [List.append_nil] at h
    cases ad with
    | none =>
      refine wpList_plain hgd fun K hK => ?_
      have hrun := run_append_none Try.prog w base 33 o.type 38 ii 4 c Try.underlying33 hii v l.length (rowL l) hown
      unfold Oper.wp
      simp only [List.length_nil] at hx
      simp [execOp, ho, resolve, invoke, builtin, hs, hx, hrun, Result.andThen]
      exact hK _ _ (h v w hown (grown_of_below (Below.refl _ _) _))
    | some ad =>
      refine wpList_append_own w hgd s x 33 ho base 38 ii _ 4 32 Try.underlying33 hii hz hsz hby rfl (by decide) v l.length (rowL l) hs hown ad 0 c [] hx rfl (fun j u hu => by simp at hu) (fun u hu => by simp at hu)
        (by simp only [List.length_nil] at hlen; unfold maxLen; omega) (by simp only [List.length_nil] at hlen; omega) hbase fun v' w' h1 h2 _ => h v' w' (by simpa using h1) h2
  · obtain ⟨r, m', rfl⟩ : ∃ r m', m = r :: m' := by cases m with
      | nil => exact absurd rfl hne
      | cons r m' => exact ⟨r, m', rfl⟩
    obtain ⟨g, rfl, _⟩ := hm 0 r rfl
    refine wpList_append_own w hgd s x 33 ho base 38 ii _ 4 32 Try.underlying33 hii hz hsz hby rfl (by decide) v l.length (rowL l) hs hown ⟨g, 0, none⟩ (r :: m').length c (rowL (r :: m')) hx (rowL_length _) (rects_cells hm) (rowL_cells _)
      (by unfold maxLen; omega) (by omega) hbase fun v' w' h1 h2 _ => h v' w' (by rw [List.length_append, rowL_append]; exact h1) h2
theorem sum_bound (g : Grid) {i k : Nat} (hi : i < 80) (hk : k ≤ 80) : sumTo (fun i => sumTo (fun k => sideC g i k) 80) i + sumTo (fun k => sideC g i k) k ≤ 26000 := by
  have h1 : sumTo (fun i => sumTo (fun k => sideC g i k) 80) i ≤ i * (80 * 4) := sumTo_le i fun i _ => sumTo_le 80 fun k _ => sideC_le g i k
  have h2 : sumTo (fun k => sideC g i k) k ≤ k * 4 := sumTo_le k fun k _ => sideC_le g i k
  omega
set_option maxRecDepth 100000 in
set_option maxHeartbeats 3200000 in
theorem spec_l06Sides (g : Grid) (b t : Nat) (w : World) (hrow : w.rowIs b t 6400 (gv g)) : Calls Try.prog 19 #[.slice (some ⟨b, 0, none⟩) 6400 6400] w
    fun e w' => ∃ (l : List Rc) (a : Option Addr) (cap : Nat), e = .returned (.slice a l.length cap) ∧ l.length = sides g ∧ Below w.heap.size w w' := by
  have hb0 := hrow.lt
  have ho0 : OwnE (w.alloc (.cells #[] 38)) w.heap.size (.slice (some ⟨w.heap.size, 0, none⟩) 0 0) [] := World.ownsRow_lit w #[] 0 (Nat.le_refl _) (by simp [maxLen]) rfl
  go_enter Try.func19, Try.ntmps19
  go_wp2_with fail
  go_loopw [3, 4] (fun s3 s wr => ∃ (i : Nat) (l : List Rc), i ≤ 80 ∧ s = .int .i64 ((i : Int) - 40) ∧ OwnE wr w.heap.size s3 l ∧ Hid (l.length = sumTo (fun i => sumTo (fun k => sideC g i k) 80) i) ∧ Below w.heap.size w wr) (fun _ s _ => (40 - intOf s).toNat)
  case atStart => exact ⟨0, [], by omega, rfl, ho0, rfl, (by repeat (first | with_reducible exact Below.refl _ _ | with_reducible assumption | with_reducible refine bel_alloc ?_ _ | with_reducible refine bel_drew ?_ | with_reducible refine bel_drewN ?_ _ | with_reducible refine bel_set ?_ (by (try simp) <;> omega) _ | with_reducible refine bel_trans ?_ (by assumption)))⟩
  case round =>
    clear ho0
    obtain ⟨i, l, hi, rfl, hown, HL, hbl⟩ := hrel
    by_cases hy : (i : Int) - 40 < 40
    · go_wp2_with fail
      go_loopw [3, 5] (fun s3 s wr => ∃ (k : Nat) (l : List Rc), k ≤ 80 ∧ s = .int .i64 ((k : Int) - 40) ∧ OwnE wr w.heap.size s3 l ∧ Hid (l.length = sumTo (fun i => sumTo (fun k => sideC g i k) 80) i + sumTo (fun k => sideC g i k) k) ∧ Below w.heap.size w wr) (fun _ s _ => (40 - intOf s).toNat)
      case atStart => exact ⟨0, l, by omega, rfl, hown, HL, hbl⟩
      case round =>
        clear hown hbl HL
        obtain ⟨k, l0, hk, rfl, hown0, HL, hbl0⟩ := hrel
        have hrow0 := hrow.of_block (hbl0.block b hb0)
        have hi8 : i < 80 := by omega
        by_cases hx : (k : Int) - 40 < 40
        · have hk8 : k < 80 := by omega
          have HLS0 : Hid (l0.length ≤ 29000) := by have h1 := HL.out; have h2 := sum_bound g hi8 hk; show _ ≤ _; omega
          have HLB0 : Hid (l0.length ≤ 30000) := by have h1 := HLS0.out; show _ ≤ _; omega
          cases hc : hasI g ((k : Int) - 40) ((i : Int) - 40)
          · have HC := hide hc
            clear hc
            go_wp2_with (go_at_call 40; refine (spec_l03Has g _ _ _ _ _ hrow0).mono ?_; rintro e w1 ⟨he, rfl⟩; rw [HC.out] at he; subst he)
            go_roundw
            case rel =>
              refine ⟨k + 1, l0, hk8, by congr 1; omega, hown0, ?_, hbl0⟩
              have hz : sideC g i k = 0 := by unfold sideC; rw [HC.out]; rfl
              rw [Hid, sumTo, hz]
              exact HL.out
            case measure => simp [intOf]; omega
          · have HC := hide hc
            clear hc
            go_upto_if 19 with (go_at_call 40; refine (spec_l03Has g _ _ _ _ _ hrow0).mono ?_; rintro e w1 ⟨he, rfl⟩; rw [HC.out] at he; subst he)
            go_upto_if 25 with (go_at_call 40; refine (spec_l03Has g _ _ _ _ _ hrow0).mono ?_; rintro e w1 ⟨rfl, rfl⟩)
            go_cut [3] (fun s3 wz => ∃ l : List Rc, OwnE wz w.heap.size s3 l ∧ Hid (l.length = l0.length + b2n (!hasI g ((k : Int) - 40) (((i : Int) - 40) - 1))) ∧ Below w.heap.size w wz)
            case first =>
              cases hq : hasI g ((k : Int) - 40) (((i : Int) - 40) - 1)
              · have HQ := hide hq
                have hsz := hbl0.size
                have hlen : l0.length ≤ 30000 := HLB0.out
                clear hq
                go_wp2_with (at_builtin; refine wpList_append_edges rfl _ _ rfl w.heap.size _ l0 rfl (ownE_next hown0 (bel_alloc (Below.refl _ _) (.cells #[.int .i64 ((k : Int) - 40), .int .i64 ((i : Int) - 40), .int .i64 (((k : Int) - 40) + 1), .int .i64 ((i : Int) - 40)] 38))) (some ⟨_, 0, none⟩) [⟨((k : Int) - 40), ((i : Int) - 40), (((k : Int) - 40) + 1), ((i : Int) - 40)⟩] _ 1 rfl (edges_new _ ⟨((k : Int) - 40), ((i : Int) - 40), (((k : Int) - 40) + 1), ((i : Int) - 40)⟩) (by simp; omega) (by simp; omega) ?_; intro v' w4 ho4 hg4)
                go_meet
                exact ⟨_, ho4, by rw [Hid, HQ.out]; simp [b2n], Below.grown (hbl0.alloc hsz _) hg4 (by simp; omega) (ownE_lo hown0)⟩
              · have HQ := hide hq
                clear hq
                go_wp2_with fail
                go_meet
                exact ⟨_, hown0, by rw [Hid, HQ.out]; simp [b2n], hbl0⟩
            case rest =>
            obtain ⟨l1, hown1, HN1, hbl1⟩ := hcut
            have hrow1 := hrow.of_block (hbl1.block b hb0)
            have HLB1 : Hid (l1.length ≤ 30000) := by have h1 := HN1.out; have h2 := HLS0.out; have h3 := b2n_le (!hasI g ((k : Int) - 40) (((i : Int) - 40) - 1)); show _ ≤ _; omega
            have HLS1 : Hid (l1.length ≤ 29000 + 1) := by have h1 := HN1.out; have h2 := HLS0.out; have h3 := b2n_le (!hasI g ((k : Int) - 40) (((i : Int) - 40) - 1)); show _ ≤ _; omega
            go_upto_if 40 with (go_at_call 40; refine (spec_l03Has g _ _ _ _ _ hrow1).mono ?_; rintro e w1 ⟨rfl, rfl⟩)
            go_cut [3] (fun s3 wz => ∃ l : List Rc, OwnE wz w.heap.size s3 l ∧ Hid (l.length = l1.length + b2n (!hasI g (((k : Int) - 40) + 1) ((i : Int) - 40))) ∧ Below w.heap.size w wz)
            case first =>
              cases hq : hasI g (((k : Int) - 40) + 1) ((i : Int) - 40)
              · have HQ := hide hq
                have hsz := hbl1.size
                have hlen : l1.length ≤ 30000 := HLB1.out
                clear hq
                go_wp2_with (at_builtin; refine wpList_append_edges rfl _ _ rfl w.heap.size _ l1 rfl (ownE_next hown1 (bel_alloc (Below.refl _ _) (.cells #[.int .i64 (((k : Int) - 40) + 1), .int .i64 ((i : Int) - 40), .int .i64 (((k : Int) - 40) + 1), .int .i64 (((i : Int) - 40) + 1)] 38))) (some ⟨_, 0, none⟩) [⟨(((k : Int) - 40) + 1), ((i : Int) - 40), (((k : Int) - 40) + 1), (((i : Int) - 40) + 1)⟩] _ 1 rfl (edges_new _ ⟨(((k : Int) - 40) + 1), ((i : Int) - 40), (((k : Int) - 40) + 1), (((i : Int) - 40) + 1)⟩) (by simp; omega) (by simp; omega) ?_; intro v' w4 ho4 hg4)
                go_meet
                exact ⟨_, ho4, by rw [Hid, HQ.out]; simp [b2n], Below.grown (hbl1.alloc hsz _) hg4 (by simp; omega) (ownE_lo hown1)⟩
              · have HQ := hide hq
                clear hq
                go_wp2_with fail
                go_meet
                exact ⟨_, hown1, by rw [Hid, HQ.out]; simp [b2n], hbl1⟩
            case rest =>
            obtain ⟨l2, hown2, HN2, hbl2⟩ := hcut
            have hrow2 := hrow.of_block (hbl2.block b hb0)
            have HLB2 : Hid (l2.length ≤ 30000) := by have h1 := HN2.out; have h2 := HLS1.out; have h3 := b2n_le (!hasI g (((k : Int) - 40) + 1) ((i : Int) - 40)); show _ ≤ _; omega
            have HLS2 : Hid (l2.length ≤ 29000 + 2) := by have h1 := HN2.out; have h2 := HLS1.out; have h3 := b2n_le (!hasI g (((k : Int) - 40) + 1) ((i : Int) - 40)); show _ ≤ _; omega
            go_upto_if 57 with (go_at_call 40; refine (spec_l03Has g _ _ _ _ _ hrow2).mono ?_; rintro e w1 ⟨rfl, rfl⟩)
            go_cut [3] (fun s3 wz => ∃ l : List Rc, OwnE wz w.heap.size s3 l ∧ Hid (l.length = l2.length + b2n (!hasI g ((k : Int) - 40) (((i : Int) - 40) + 1))) ∧ Below w.heap.size w wz)
            case first =>
              cases hq : hasI g ((k : Int) - 40) (((i : Int) - 40) + 1)
              · have HQ := hide hq
                have hsz := hbl2.size
                have hlen : l2.length ≤ 30000 := HLB2.out
                clear hq
                go_wp2_with (at_builtin; refine wpList_append_edges rfl _ _ rfl w.heap.size _ l2 rfl (ownE_next hown2 (bel_alloc (Below.refl _ _) (.cells #[.int .i64 (((k : Int) - 40) + 1), .int .i64 (((i : Int) - 40) + 1), .int .i64 ((k : Int) - 40), .int .i64 (((i : Int) - 40) + 1)] 38))) (some ⟨_, 0, none⟩) [⟨(((k : Int) - 40) + 1), (((i : Int) - 40) + 1), ((k : Int) - 40), (((i : Int) - 40) + 1)⟩] _ 1 rfl (edges_new _ ⟨(((k : Int) - 40) + 1), (((i : Int) - 40) + 1), ((k : Int) - 40), (((i : Int) - 40) + 1)⟩) (by simp; omega) (by simp; omega) ?_; intro v' w4 ho4 hg4)
                go_meet
                exact ⟨_, ho4, by rw [Hid, HQ.out]; simp [b2n], Below.grown (hbl2.alloc hsz _) hg4 (by simp; omega) (ownE_lo hown2)⟩
              · have HQ := hide hq
                clear hq
                go_wp2_with fail
                go_meet
                exact ⟨_, hown2, by rw [Hid, HQ.out]; simp [b2n], hbl2⟩
            case rest =>
            obtain ⟨l3, hown3, HN3, hbl3⟩ := hcut
            have hrow3 := hrow.of_block (hbl3.block b hb0)
            have HLB3 : Hid (l3.length ≤ 30000) := by have h1 := HN3.out; have h2 := HLS2.out; have h3 := b2n_le (!hasI g ((k : Int) - 40) (((i : Int) - 40) + 1)); show _ ≤ _; omega
            have HLS3 : Hid (l3.length ≤ 29000 + 3) := by have h1 := HN3.out; have h2 := HLS2.out; have h3 := b2n_le (!hasI g ((k : Int) - 40) (((i : Int) - 40) + 1)); show _ ≤ _; omega
            cases hq : hasI g (((k : Int) - 40) - 1) ((i : Int) - 40)
            · have HQ := hide hq
              have hsz := hbl3.size
              have hlen : l3.length ≤ 30000 := HLB3.out
              clear hq
              go_wp2_with (first | (go_at_call 40; refine (spec_l03Has g _ _ _ _ _ hrow3).mono ?_; rintro e w1 ⟨he, rfl⟩; rw [HQ.out] at he; subst he) | (at_builtin; refine wpList_append_edges rfl _ _ rfl w.heap.size _ l3 rfl (ownE_next hown3 (bel_alloc (Below.refl _ _) (.cells #[.int .i64 ((k : Int) - 40), .int .i64 (((i : Int) - 40) + 1), .int .i64 ((k : Int) - 40), .int .i64 ((i : Int) - 40)] 38))) (some ⟨_, 0, none⟩) [⟨((k : Int) - 40), (((i : Int) - 40) + 1), ((k : Int) - 40), ((i : Int) - 40)⟩] _ 1 rfl (edges_new _ ⟨((k : Int) - 40), (((i : Int) - 40) + 1), ((k : Int) - 40), ((i : Int) - 40)⟩) (by simp; omega) (by simp; omega) ?_; intro v' w4 ho4 hg4))
              go_roundw
              case rel =>
                refine ⟨k + 1, _, hk8, by congr 1; omega, ho4, ?_, Below.grown (hbl3.alloc hsz _) hg4 (by simp; omega) (ownE_lo hown3)⟩
                have hz := sideC_def g i k HC.out
                rw [HQ.out] at hz
                have hz2 := hz
                first | rw [show b2n (!false) = 1 from rfl] at hz | rw [show b2n (!true) = 0 from rfl] at hz
                have h1 := HN1.out
                have h2 := HN2.out
                have h3 := HN3.out
                have h0 := HL.out
                first | (rw [Hid, sumTo, List.length_append, List.length_singleton]; omega) | (rw [Hid, sumTo]; omega)
              case measure => simp [intOf]; omega
            · have HQ := hide hq
              clear hq
              go_wp2_with (go_at_call 40; refine (spec_l03Has g _ _ _ _ _ hrow3).mono ?_; rintro e w1 ⟨he, rfl⟩; rw [HQ.out] at he; subst he)
              go_roundw
              case rel =>
                refine ⟨k + 1, _, hk8, by congr 1; omega, hown3, ?_, hbl3⟩
                have hz := sideC_def g i k HC.out
                rw [HQ.out] at hz
                have hz2 := hz
                first | rw [show b2n (!false) = 1 from rfl] at hz | rw [show b2n (!true) = 0 from rfl] at hz
                have h1 := HN1.out
                have h2 := HN2.out
                have h3 := HN3.out
                have h0 := HL.out
                first | (rw [Hid, sumTo, List.length_append, List.length_singleton]; omega) | (rw [Hid, sumTo]; omega)
              case measure => simp [intOf]; omega

        · obtain rfl : k = 80 := by omega
          go_wp2_with fail
          go_roundw
          case rel =>
            refine ⟨i + 1, l0, by omega, by congr 1; omega, hown0, ?_, hbl0⟩
            rw [Hid, sumTo]
            exact HL.out
          case measure => simp [intOf]; omega
    · obtain rfl : i = 80 := by omega
      obtain ⟨a3, c3, rfl⟩ := ownE_slice hown
      go_wp2_with fail
      go_ret
      first | exact ⟨l, ⟨a3, c3, rfl⟩, HL.out, hbl⟩ | exact ⟨l, a3, c3, rfl, HL.out, hbl⟩
def perR (l : List Rc) : Int := if isReg l then (sides (bitsOf l) : Int) else -1
set_option maxRecDepth 100000 in
set_option maxHeartbeats 800000 in
theorem spec_Perimeter (l : List Rc) (a : Option Addr) (cap : Nat) (w : World) (h : RectsAt w.heap.size w a l) (hn : l.length ≤ 2000000) : Calls Try.prog 6 #[.slice a l.length cap] w fun e w' => e = .returned (.int .i64 (perR l)) ∧ Below w.heap.size w w' := by
  cases hv : isReg l
  · have hr : perR l = -1 := by simp [perR, hv]
    rw [hr]
    have HV := hide hv
    clear hv hr
    go_enter Try.func6, Try.ntmps6
    go_wp2_with fail
    go_at_call 18
    refine (spec_l03Ok l _ _ _ h hn).mono ?_
    rintro e w1 ⟨he, hb1⟩
    rw [HV.out] at he
    subst he
    go_wp2_with fail
    go_ret
    exact ⟨rfl, hb1⟩
  · have hr : perR l = (sides (bitsOf l) : Int) := by simp [perR, hv]
    rw [hr]
    have HV := hide hv
    have HK := hide (isReg_iff.1 hv)
    clear hv hr
    go_enter Try.func6, Try.ntmps6
    go_wp2_with fail
    go_at_call 18
    refine (spec_l03Ok l _ _ _ h hn).mono ?_
    rintro e w1 ⟨he, hb1⟩
    rw [HV.out] at he
    subst he
    go_wp2_with fail
    go_at_call 20
    refine (spec_l03Bits l _ _ _ (h.kept hb1) (by have := HK.out.1; omega) HK.out.2.1).mono ?_
    rintro e w2 ⟨b2, rfl, _, hrow2, hb2⟩
    go_wp2_with fail
    go_at_call 19
    refine (spec_l06Sides _ _ _ w2 hrow2).mono ?_
    rintro e w3 ⟨l3, a3, c3, rfl, hl3, hb3⟩
    have HL3 := hide hl3
    clear hl3
    go_wp2_with fail
    go_ret
    rw [← HL3.out]
    exact ⟨rfl, bel_trans (bel_trans hb1 hb2) hb3⟩
end Go.Proofs.Ytldgjocjcbhkmab
