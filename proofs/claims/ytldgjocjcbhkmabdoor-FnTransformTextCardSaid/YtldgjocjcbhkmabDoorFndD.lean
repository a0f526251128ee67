/- Contracts: the first transform that takes points to others (reference and program). -/
import Derived.Test.YtldgjocjcbhkmabDoorPtsD
import Derived.Test.YtldgjocjcbhkmabDoorResD
import Derived.Test.YtldgjocjcbhkmabDoorMov2
import Derived.StillTailTactics
namespace Go.Proofs.YtldgjocjcbhkmabDoor
open Go.RowKit
attribute [local go_sem high] run_max2 run_min2 run_max3 run_max4
attribute [local go_sem low] cell_alloc_ite frozen_alloc_ite

/-! ### plain law -/
abbrev Pts := List (Int × Int)
def ptN (P : Pts) (i : Nat) : Int × Int := P.getD i (0, 0)
def fTX (P Q : Pts) (o : Int) : Int := (ptN Q 0).1 - turnX o (ptN P 0).1 (ptN P 0).2
def fTY (P Q : Pts) (o : Int) : Int := (ptN Q 0).2 - turnY o (ptN P 0).1 (ptN P 0).2
def eqMv (o tx ty : Int) (p q : Int × Int) : Bool := (mvX o tx p.1 p.2 == q.1) && (mvY o ty p.1 p.2 == q.2)
def fitsN (P Q : Pts) (o : Nat) (i : Nat) : Bool := vTr o (fTX P Q o) (fTY P Q o) && (List.range i).all fun k => eqMv o (fTX P Q o) (fTY P Q o) (ptN P k) (ptN Q k)
def onP (P : Pts) (i : Nat) : Bool := (List.range i).all fun k => vPt (ptN P k).1 (ptN P k).2
def fOk (P Q : Pts) : Bool := decide (1 ≤ P.length) && decide (P.length ≤ 8) && decide (Q.length = P.length) && (onP P P.length && onP Q P.length)
def findO (P Q : Pts) : Option Nat := if fOk P Q then (List.range 8).find? fun o => fitsN P Q o P.length else none
def fRO (P Q : Pts) : Int := match findO P Q with | some o => o | none => 0
def fRX (P Q : Pts) : Int := match findO P Q with | some o => fTX P Q o | none => 0
def fRY (P Q : Pts) : Int := match findO P Q with | some o => fTY P Q o | none => 0
def fRB (P Q : Pts) : Bool := match findO P Q with | some _ => true | none => false
theorem ptN_get (P : Pts) (i : Nat) (h : i < P.length) : P[i]? = some (ptN P i) := by simp [ptN, h]
theorem onP_succ (P : Pts) (i : Nat) : onP P (i + 1) = (onP P i && vPt (ptN P i).1 (ptN P i).2) := by
  simp [onP, List.range_succ]
theorem onP_zero (P : Pts) : onP P 0 = true := rfl
theorem onP_at {P : Pts} {n : Nat} (h : onP P n = true) {i : Nat} (hi : i < n) : vPt (ptN P i).1 (ptN P i).2 = true := by
  simp only [onP, List.all_eq_true, List.mem_range] at h
  exact h i hi
theorem fitsN_zero (P Q : Pts) (o : Nat) : fitsN P Q o 0 = vTr o (fTX P Q o) (fTY P Q o) := by simp [fitsN]
theorem fitsN_succ (P Q : Pts) (o i : Nat) : fitsN P Q o (i + 1) = (fitsN P Q o i && eqMv o (fTX P Q o) (fTY P Q o) (ptN P i) (ptN Q i)) := by
  simp [fitsN, List.range_succ, Bool.and_assoc]
theorem fitsN_vTr {P Q : Pts} {o i : Nat} (h : fitsN P Q o i = true) : vTr o (fTX P Q o) (fTY P Q o) = true := by
  unfold fitsN at h
  exact (Bool.and_eq_true_iff.1 h).1
/-- Nothing fits: the zero transform, false. -/
structure FNone (P Q : Pts) : Prop where
  o : fRO P Q = 0
  x : fRX P Q = 0
  y : fRY P Q = 0
  b : fRB P Q = false
theorem fNone_of {P Q : Pts} (h : findO P Q = none) : FNone P Q := ⟨by simp [fRO, h], by simp [fRX, h], by simp [fRY, h], by simp [fRB, h]⟩
theorem fNone_ok {P Q : Pts} (h : fOk P Q = false) : FNone P Q := fNone_of (by simp [findO, h])
theorem fNone_fits {P Q : Pts} (h : ∀ o, o < 8 → fitsN P Q o P.length = false) : FNone P Q := fNone_of (by
  unfold findO
  split
  · rw [List.find?_eq_none]
    intro o ho
    simp [h o (List.mem_range.1 ho)]
  · rfl)
structure FSome (P Q : Pts) (k : Nat) : Prop where
  o : fRO P Q = k
  x : fRX P Q = fTX P Q k
  y : fRY P Q = fTY P Q k
  b : fRB P Q = true
theorem range_find {f : Nat → Bool} : ∀ (n o : Nat), o < n → f o = true → (∀ j, j < o → f j = false) → (List.range n).find? f = some o := by
  intro n
  induction n with
  | zero => intro o h; omega
  | succ n ih =>
    intro o ho hf hj
    rw [List.range_succ, List.find?_append]
    by_cases e : o < n
    · rw [ih o e hf hj]; rfl
    · obtain rfl : o = n := by omega
      have hn : (List.range o).find? f = none := by
        rw [List.find?_eq_none]
        intro j hj'
        simp [hj j (List.mem_range.1 hj')]
      rw [hn]
      simp [hf]
theorem fSome_of {P Q : Pts} {o : Nat} (hk : fOk P Q = true) (ho : o < 8) (h : fitsN P Q o P.length = true) (hj : ∀ j, j < o → fitsN P Q j P.length = false) : FSome P Q o := by
  have : findO P Q = some o := by
    unfold findO
    rw [if_pos hk]
    exact range_find 8 o ho h hj
  exact ⟨by simp [fRO, this], by simp [fRX, this], by simp [fRY, this], by simp [fRB, this]⟩
theorem fOk_of {P Q : Pts} (h1 : 1 ≤ P.length) (h8 : P.length ≤ 8) (hq : Q.length = P.length) (hp : onP P P.length = true) (hr : onP Q P.length = true) : fOk P Q = true := by
  simp [fOk, h1, h8, hq, hp, hr]
theorem fOk_off {P Q : Pts} {i : Nat} (hi : i < P.length) (h : vPt (ptN P i).1 (ptN P i).2 = false ∨ vPt (ptN Q i).1 (ptN Q i).2 = false) : fOk P Q = false := by
  rw [Bool.eq_false_iff]
  intro hk
  simp only [fOk, Bool.and_eq_true] at hk
  rcases h with h | h
  · have := onP_at hk.2.1 hi
    rw [h] at this; cases this
  · have := onP_at hk.2.2 hi
    rw [h] at this; cases this
theorem fRet {P Q : Pts} {o : Nat} (h : FSome P Q o) : Ending.returned (.tuple #[.agg #[.int .i64 (o), .int .i64 (fTX P Q o), .int .i64 (fTY P Q o)], .bool true]) = .returned (.tuple #[.agg #[.int .i64 (fRO P Q), .int .i64 (fRX P Q), .int .i64 (fRY P Q)], .bool (fRB P Q)]) := by
  rw [h.o, h.x, h.y, h.b]
theorem fRet0 {P Q : Pts} (h : FNone P Q) : Ending.returned (.tuple #[.agg #[.int .i64 (0), .int .i64 (0), .int .i64 (0)], .bool false]) = .returned (.tuple #[.agg #[.int .i64 (fRO P Q), .int .i64 (fRX P Q), .int .i64 (fRY P Q)], .bool (fRB P Q)]) := by
  rw [h.o, h.x, h.y, h.b]
theorem vPt_small {p : Int × Int} (h : vPt p.1 p.2 = true) : small p.1 ∧ small p.2 := by
  have := vPt_iff.1 h
  exact ⟨small_of (by omega), small_of (by omega)⟩
theorem PtsAt.at {B C g : Nat} {w w' : World} {P : Pts} (h : PtsAt B w (some ⟨g, 0, none⟩) P) (hb : Below C w w') (hc : B ≤ C) (i : Nat) (hi : i < P.length) :
    w'.cell? ⟨g, i * 2, none⟩ = some (.int .i64 (ptN P i).1) ∧ w'.cell? ⟨g, i * 2 + 1, none⟩ = some (.int .i64 (ptN P i).2) := by
  obtain ⟨g', ha, _, c0, c1⟩ := h.below hb hc i _ (ptN_get P i hi)
  simp only [Option.some.injEq, Addr.mk.injEq, and_true] at ha
  subst ha
  exact ⟨c0, c1⟩
set_option maxRecDepth 100000 in
set_option maxHeartbeats 3200000 in
theorem impl_FindTransform (P Q : Pts) (a b : Option Addr) (ca cb : Nat) (w : World) (hP : PtsAt w.heap.size w a P) (hQ : PtsAt w.heap.size w b Q) (hn : P.length ≤ 1048576) (hm : Q.length ≤ 1048576) :
    Calls Tryd.prog 16 #[.slice a P.length ca, .slice b Q.length cb] w fun e w' => e = .returned (.tuple #[.agg #[.int .i64 (fRO P Q), .int .i64 (fRX P Q), .int .i64 (fRY P Q)], .bool (fRB P Q)]) ∧ Below w.heap.size w w' := by
  obtain ⟨n, hnn⟩ : ∃ n, n = P.length := ⟨_, rfl⟩
  obtain ⟨m, hmm⟩ : ∃ m, m = Q.length := ⟨_, rfl⟩
  rw [← hnn] at hn ⊢
  rw [← hmm] at hm ⊢
  have HN := hide hnn
  have HM := hide hmm
  clear hnn hmm
  by_cases h1 : 1 ≤ n
  · by_cases h8 : n ≤ 8
    · by_cases hq : m = n
      · subst hq
        have RS := hide (res3_start w 25)
        have d1 : ¬ ((m : Int) < 1) := by omega
        have d2 : ¬ (8 < (m : Int)) := by omega
        have d3 : ((m : Int) == 0) = false := by simp; omega
        go_enter Tryd.func16, Tryd.ntmps16
        go_wp2_with fail
        generalize (w.alloc (.cells #[.int .i64 0, .int .i64 0, .int .i64 0] 25)) = wz at *
        go_loopw [30] (fun s1 wr => ∃ i : Nat, i ≤ m ∧ s1 = .int .i64 i ∧ onP P i = true ∧ onP Q i = true ∧ Res3 w.heap.size w wr) (fun s _ => m - (intOf s).toNat)
        case atStart => exact ⟨0, Nat.zero_le _, rfl, rfl, rfl, RS.out⟩
        case round =>
          obtain ⟨i, hi, rfl, hop, hoq, hres⟩ := hrel
          have OP := hide hop
          have OQ := hide hoq
          clear hop hoq RS
          have HR := hide hres
          obtain ⟨rc0, rc1, rc2, rf0, rf1, rf2, hbl⟩ := hres
          have hsz := World.block_lt_of_cell? _ _ rc0
          by_cases hy : i < m
          · obtain ⟨g, ha, hg, c0, c1⟩ := hP.below hbl (Nat.le_refl _) i _ (ptN_get P i (by have := HN.out; omega))
            obtain ⟨g', ha', hg', c0', c1'⟩ := hQ.below hbl (Nat.le_refl _) i _ (ptN_get Q i (by have := HM.out; omega))
            subst ha
            subst ha'
            have hx0 : (0 : Int) ≤ (i : Int) := Int.natCast_nonneg _
            have hx1 : (i : Int) < (m : Int) := by omega
            by_cases hvp : vPt (ptN P i).1 (ptN P i).2 = true
            · by_cases hvq : vPt (ptN Q i).1 (ptN Q i).2 = true
              · go_wp2_with (go_at_call 27; refine (impl_onChip _ _ _).mono ?_; rintro e w1 ⟨rfl, hb⟩; obtain ⟨_, _, hc, hf⟩ := bcellI hb; have hs := hb.size; (try simp at hs))
                go_roundw
                case rel => exact ⟨i + 1, hy, by go_num, by rw [onP_succ, OP.out, hvp]; rfl, by rw [onP_succ, OQ.out, hvq]; rfl, HR.out.kept (by repeat (first | with_reducible exact Below.refl _ _ | with_reducible assumption | with_reducible refine bel_alloc ?_ _ | with_reducible refine bel_drew ?_ | with_reducible refine bel_drewN ?_ _ | with_reducible refine bel_set ?_ (by (try simp) <;> omega) _ | with_reducible refine bel_trans ?_ (by assumption)))⟩
                case measure => simp [intOf]; omega
              · have HF := hide (fNone_ok (fOk_off (P := P) (Q := Q) (i := i) (by have := HN.out; omega) (.inr (by simpa using hvq))))
                go_wp2_with (go_at_call 27; refine (impl_onChip _ _ _).mono ?_; rintro e w1 ⟨rfl, hb⟩; obtain ⟨_, _, hc, hf⟩ := bcellI hb; have hs := hb.size; (try simp at hs))
                refine bodyPost_ret (v := .tuple #[.agg #[.int .i64 (0), .int .i64 (0), .int .i64 (0)], .bool false]) (by first | (simp [results, Tryd.results16, go_sem, *]; done) | simp [results, Tryd.results16, go_sem, *, ↓IntWalk.iteOmega]) rfl ⟨fRet0 HF.out, (by repeat (first | with_reducible exact Below.refl _ _ | with_reducible assumption | with_reducible refine bel_alloc ?_ _ | with_reducible refine bel_drew ?_ | with_reducible refine bel_drewN ?_ _ | with_reducible refine bel_set ?_ (by (try simp) <;> omega) _ | with_reducible refine bel_trans ?_ (by assumption)))⟩
            · have HF := hide (fNone_ok (fOk_off (P := P) (Q := Q) (i := i) (by have := HN.out; omega) (.inl (by simpa using hvp))))
              go_wp2_with (go_at_call 27; refine (impl_onChip _ _ _).mono ?_; rintro e w1 ⟨rfl, hb⟩; obtain ⟨_, _, hc, hf⟩ := bcellI hb; have hs := hb.size; (try simp at hs))
              refine bodyPost_ret (v := .tuple #[.agg #[.int .i64 (0), .int .i64 (0), .int .i64 (0)], .bool false]) (by first | (simp [results, Tryd.results16, go_sem, *]; done) | simp [results, Tryd.results16, go_sem, *, ↓IntWalk.iteOmega]) rfl ⟨fRet0 HF.out, (by repeat (first | with_reducible exact Below.refl _ _ | with_reducible assumption | with_reducible refine bel_alloc ?_ _ | with_reducible refine bel_drew ?_ | with_reducible refine bel_drewN ?_ _ | with_reducible refine bel_set ?_ (by (try simp) <;> omega) _ | with_reducible refine bel_trans ?_ (by assumption)))⟩
          · obtain rfl : i = m := by omega
            have HK := hide (fOk_of (P := P) (Q := Q) (by have := HN.out; omega) (by have := HN.out; omega) (by have := HN.out; have := HM.out; omega) (by rw [← HN.out]; exact OP.out) (by rw [← HN.out]; exact OQ.out))
            have SP := hide (vPt_small (onP_at OP.out (i := 0) (by omega)))
            have SQ := hide (vPt_small (onP_at OQ.out (i := 0) (by omega)))
            clear rc0 rc1 rc2 rf0 rf1 rf2
            go_wp2_with fail
            go_loopw [49] (fun s1 wk => ∃ k : Nat, k ≤ 8 ∧ s1 = .int .i64 k ∧ (∀ o, o < k → fitsN P Q o i = false) ∧ Res3 w.heap.size w wk) (fun s _ => 8 - (intOf s).toNat)
            case atStart => exact ⟨0, Nat.zero_le _, rfl, fun o ho => absurd ho (by omega), HR.out⟩
            case round =>
              obtain ⟨k, hk, rfl, hno, hres⟩ := hrel
              have NO := hide hno
              clear hno HR hbl
              have HR := hide hres
              obtain ⟨rc0, rc1, rc2, rf0, rf1, rf2, hbl⟩ := hres
              have hsz := World.block_lt_of_cell? _ _ rc0
              by_cases hk8 : k < 8
              · obtain ⟨g, ha, hg, c0, c1⟩ := hP.below hbl (Nat.le_refl _) 0 _ (ptN_get P 0 (by have := HN.out; omega))
                obtain ⟨g', ha', hg', c0', c1'⟩ := hQ.below hbl (Nat.le_refl _) 0 _ (ptN_get Q 0 (by have := HM.out; omega))
                subst ha
                subst ha'
                simp only [Nat.zero_mul, Nat.zero_add] at c0 c1 c0' c1'
                have hx1 : 0 < i := by omega
                have TB := hide (turn_small (o := (k : Int)) SP.out.1 SP.out.2)
                obtain ⟨b1, b2⟩ := small_unfold TB.out.1
                obtain ⟨b3, b4⟩ := small_unfold TB.out.2
                obtain ⟨b5, b6⟩ := small_unfold SQ.out.1
                obtain ⟨b7, b8⟩ := small_unfold SQ.out.2
                go_wp2_with fail
                go_at_call 29
                refine (impl_turn _ _ _ (by omega) SP.out.1 SP.out.2 _).mono ?_
                rintro e w1 ⟨rfl, hb⟩; obtain ⟨_, _, hc, hf⟩ := bcellI hb; have hs := hb.size; (try simp at hs)
                go_wp2_with fail
                go_region_held3 (fun w' => w'.cell? ⟨g', 0, none⟩ = some (.int .i64 (ptN Q 0).1) ∧ w'.cell? ⟨g', 1, none⟩ = some (.int .i64 (ptN Q 0).2) ∧ w'.cell? ⟨w1.heap.size, 0, none⟩ = some (.int .i64 (turnX k (ptN P 0).1 (ptN P 0).2)) ∧ w'.cell? ⟨w1.heap.size, 1, none⟩ = some (.int .i64 (turnY k (ptN P 0).1 (ptN P 0).2)) ∧ w'.cell? ⟨w.heap.size, 0, none⟩ = some (.int .i64 0) ∧ w'.cell? ⟨w.heap.size, 1, none⟩ = some (.int .i64 0) ∧ w'.cell? ⟨w.heap.size, 2, none⟩ = some (.int .i64 0) ∧ w'.frozen? ⟨w.heap.size, 0, none⟩ = false ∧ w'.frozen? ⟨w.heap.size, 1, none⟩ = false ∧ w'.frozen? ⟨w.heap.size, 2, none⟩ = false ∧ Below w.heap.size w w')
                  (((repeat' apply And.intro) <;> first | (simp [go_sem, *]; done) | (simp [go_sem, *]; intros; omega) | (((try simp [*]) <;> omega); done) | ((repeat (first | with_reducible exact Below.refl _ _ | with_reducible assumption | with_reducible refine bel_alloc ?_ _ | with_reducible refine bel_drew ?_ | with_reducible refine bel_drewN ?_ _ | with_reducible refine bel_set ?_ (by (try simp) <;> omega) _ | with_reducible refine bel_trans ?_ (by assumption))); done) | (simp [go_sem, *, ↓IntWalk.iteOmega]; done) | (simp [go_sem, *, ↓IntWalk.iteOmega]; intros; omega))) (fail)
                go_wp2_with fail
                go_at_call 18
                refine (impl_IsValidTransform _ _ _ _).mono ?_
                rintro e w2 ⟨rfl, hb2⟩
                obtain ⟨_, _, hc2, hf2⟩ := bcellI hb2
                have hs2 := hb2.size
                (try simp at hs2)
                go_wp2_with fail
                go_loopw [10, 77] (fun sf sj wq => ∃ j : Nat, j ≤ i ∧ sj = .int .i64 j ∧ sf = .bool (fitsN P Q k j) ∧ wq.cell? ⟨w1.heap.size + 1, 0, none⟩ = some (.int .i64 k) ∧ wq.cell? ⟨w1.heap.size + 1, 1, none⟩ = some (.int .i64 (fTX P Q k)) ∧ wq.cell? ⟨w1.heap.size + 1, 2, none⟩ = some (.int .i64 (fTY P Q k)) ∧ w1.heap.size + 1 < wq.heap.size ∧ Res3 w.heap.size w wq) (fun sf sj _ => i - (intOf sj).toNat)
                case atStart => exact ⟨0, Nat.zero_le _, rfl, by rw [fitsN_zero]; rfl, by simp [go_sem, *], by simp [go_sem, *, fTX], by simp [go_sem, *, fTY], by omega, HR.out.kept (by repeat (first | with_reducible exact Below.refl _ _ | with_reducible assumption | with_reducible refine bel_alloc ?_ _ | with_reducible refine bel_drew ?_ | with_reducible refine bel_drewN ?_ _ | with_reducible refine bel_set ?_ (by (try simp) <;> omega) _ | with_reducible refine bel_trans ?_ (by assumption)))⟩
                case round =>
                  obtain ⟨j, hj, rfl, rfl, d0, d1, d2, hz, hres⟩ := hrel
                  clear HR hb hb2 hc hc2 hf hf2 c0 c1 c0' c1' rc0 rc1 rc2 rf0 rf1 rf2 hbl hsz
                  have HR := hide hres
                  obtain ⟨rc0, rc1, rc2, rf0, rf1, rf2, hbl⟩ := hres
                  have hsz := World.block_lt_of_cell? _ _ rc0
                  by_cases hjt : j < i
                  · obtain ⟨c0, c1⟩ := hP.at hbl (Nat.le_refl _) j (by have := HN.out; omega)
                    obtain ⟨c0', c1'⟩ := hQ.at hbl (Nat.le_refl _) j (by have := HM.out; omega)
                    have hx0 : (0 : Int) ≤ (j : Int) := Int.natCast_nonneg _
                    have hx1 : (j : Int) < (i : Int) := by omega
                    by_cases hft : fitsN P Q k j = true
                    · have VT := hide (vTr_iff.1 (fitsN_vTr hft))
                      have VP := hide (vPt_iff.1 (onP_at OP.out hjt))
                      cases hx' : (mvX k (fTX P Q k) (ptN P j).1 (ptN P j).2 == (ptN Q j).1) <;> cases hy' : (mvY k (fTY P Q k) (ptN P j).1 (ptN P j).2 == (ptN Q j).2)
                      all_goals
                        go_wp2_with fail
                        go_region_held3 (fun w' => w'.cell? ⟨w1.heap.size + 1, 0, none⟩ = some (.int .i64 k) ∧ w'.cell? ⟨w1.heap.size + 1, 1, none⟩ = some (.int .i64 (fTX P Q k)) ∧ w'.cell? ⟨w1.heap.size + 1, 2, none⟩ = some (.int .i64 (fTY P Q k)) ∧ w'.cell? ⟨g, j * 2, none⟩ = some (.int .i64 (ptN P j).1) ∧ w'.cell? ⟨g, j * 2 + 1, none⟩ = some (.int .i64 (ptN P j).2) ∧ w'.cell? ⟨g', j * 2, none⟩ = some (.int .i64 (ptN Q j).1) ∧ w'.cell? ⟨g', j * 2 + 1, none⟩ = some (.int .i64 (ptN Q j).2) ∧ Below wr.heap.size wr w')
                          (first | (go_split_ands; ((repeat' apply And.intro) <;> first | exact keep_cell hb (by assumption) | exact bel_trans (by assumption) hb | exact bel_trans (bel_drew (by assumption)) hb)) | ((repeat' apply And.intro) <;> first | (simp [go_sem, *]; done) | exact (by repeat (first | with_reducible exact Below.refl _ _ | with_reducible assumption | with_reducible refine bel_alloc ?_ _ | with_reducible refine bel_drew ?_ | with_reducible refine bel_drewN ?_ _ | with_reducible refine bel_set ?_ (by (try simp) <;> omega) _ | with_reducible refine bel_trans ?_ (by assumption))))) ((go_at_call 28; refine (impl_move_in _ _ _ _ _ VT.out.1 VT.out.2.1 VT.out.2.2 (by have := VP.out; omega) (by have := VP.out; omega) _).mono ?_; rintro e w3 ⟨rfl, hb⟩))
                        all_goals
                          go_wp2_with fail
                          go_roundw
                          case rel => exact ⟨j + 1, hjt, by go_num, by rw [fitsN_succ, hft]; simp [eqMv, hx', hy'], keep_cell (w1 := _) (W := wr) (by repeat (first | with_reducible exact Below.refl _ _ | with_reducible assumption | with_reducible refine bel_alloc ?_ _ | with_reducible refine bel_drew ?_ | with_reducible refine bel_drewN ?_ _ | with_reducible refine bel_set ?_ (by (try simp) <;> omega) _ | with_reducible refine bel_trans ?_ (by assumption))) d0, keep_cell (w1 := _) (W := wr) (by repeat (first | with_reducible exact Below.refl _ _ | with_reducible assumption | with_reducible refine bel_alloc ?_ _ | with_reducible refine bel_drew ?_ | with_reducible refine bel_drewN ?_ _ | with_reducible refine bel_set ?_ (by (try simp) <;> omega) _ | with_reducible refine bel_trans ?_ (by assumption))) d1, keep_cell (w1 := _) (W := wr) (by repeat (first | with_reducible exact Below.refl _ _ | with_reducible assumption | with_reducible refine bel_alloc ?_ _ | with_reducible refine bel_drew ?_ | with_reducible refine bel_drewN ?_ _ | with_reducible refine bel_set ?_ (by (try simp) <;> omega) _ | with_reducible refine bel_trans ?_ (by assumption))) d2, Nat.lt_of_lt_of_le hz (Below.size (B := wr.heap.size) (w := wr) (by repeat (first | with_reducible exact Below.refl _ _ | with_reducible assumption | with_reducible refine bel_alloc ?_ _ | with_reducible refine bel_drew ?_ | with_reducible refine bel_drewN ?_ _ | with_reducible refine bel_set ?_ (by (try simp) <;> omega) _ | with_reducible refine bel_trans ?_ (by assumption)))), HR.out.kept (by repeat (first | with_reducible exact Below.refl _ _ | with_reducible assumption | with_reducible refine bel_alloc ?_ _ | with_reducible refine bel_drew ?_ | with_reducible refine bel_drewN ?_ _ | with_reducible refine bel_set ?_ (by (try simp) <;> omega) _ | with_reducible refine bel_trans ?_ (by assumption)))⟩
                          case measure => simp [intOf]; omega
                    · have hff : fitsN P Q k j = false := by simpa using hft
                      clear hft
                      go_wp2_with fail
                      go_quiet (fail)
                      go_wp2_with fail
                      go_roundw
                      case rel => exact ⟨j + 1, hjt, by go_num, by rw [fitsN_succ, hff]; rfl, d0, d1, d2, hz, HR.out.kept (by repeat (first | with_reducible exact Below.refl _ _ | with_reducible assumption | with_reducible refine bel_alloc ?_ _ | with_reducible refine bel_drew ?_ | with_reducible refine bel_drewN ?_ _ | with_reducible refine bel_set ?_ (by (try simp) <;> omega) _ | with_reducible refine bel_trans ?_ (by assumption)))⟩
                      case measure => simp [intOf]; omega
                  · obtain rfl : j = i := by omega
                    by_cases hft : fitsN P Q k j = true
                    · have HF := hide (fSome_of HK.out hk8 (by rw [← HN.out]; exact hft) (fun o ho => by rw [← HN.out]; exact NO.out o ho))
                      rw [hft]
                      go_wp2_with fail
                      refine bodyPost_ret (v := .tuple #[.agg #[.int .i64 ((k : Int)), .int .i64 (fTX P Q k), .int .i64 (fTY P Q k)], .bool true]) (by first | (simp [results, Tryd.results16, go_sem, *]; done) | simp [results, Tryd.results16, go_sem, *, ↓IntWalk.iteOmega]) rfl ⟨fRet HF.out, (by repeat (first | with_reducible exact Below.refl _ _ | with_reducible assumption | with_reducible refine bel_alloc ?_ _ | with_reducible refine bel_drew ?_ | with_reducible refine bel_drewN ?_ _ | with_reducible refine bel_set ?_ (by (try simp) <;> omega) _ | with_reducible refine bel_trans ?_ (by assumption)))⟩
                    · have hff : fitsN P Q k j = false := by simpa using hft
                      clear hft
                      rw [hff]
                      go_wp2_with fail
                      go_roundw
                      case rel => exact ⟨k + 1, hk8, by go_num, fun o ho => by
                        by_cases h : o = k
                        · subst h; exact hff
                        · exact NO.out o (by omega), HR.out.kept (by repeat (first | with_reducible exact Below.refl _ _ | with_reducible assumption | with_reducible refine bel_alloc ?_ _ | with_reducible refine bel_drew ?_ | with_reducible refine bel_drewN ?_ _ | with_reducible refine bel_set ?_ (by (try simp) <;> omega) _ | with_reducible refine bel_trans ?_ (by assumption)))⟩
                      case measure => simp [intOf]; omega
              · go_wp2_with fail
                obtain rfl : k = 8 := by omega
                have HF := hide (fNone_fits (P := P) (Q := Q) (fun o ho => by rw [← HN.out]; exact NO.out o ho))
                refine bodyPost_ret (v := .tuple #[.agg #[.int .i64 (0), .int .i64 (0), .int .i64 (0)], .bool false]) (by first | (simp [results, Tryd.results16, go_sem, *]; done) | simp [results, Tryd.results16, go_sem, *, ↓IntWalk.iteOmega]) rfl ⟨fRet0 HF.out, (by repeat (first | with_reducible exact Below.refl _ _ | with_reducible assumption | with_reducible refine bel_alloc ?_ _ | with_reducible refine bel_drew ?_ | with_reducible refine bel_drewN ?_ _ | with_reducible refine bel_set ?_ (by (try simp) <;> omega) _ | with_reducible refine bel_trans ?_ (by assumption)))⟩
      · have HF := hide (fNone_ok (show fOk P Q = false by have := HN.out; have := HM.out; simp [fOk]; omega))
        have d1 : ¬ ((n : Int) < 1) := by omega
        have d2 : ¬ (8 < (n : Int)) := by omega
        have d3 : ((n : Int) == 0) = false := by simp; omega
        have d4 : ((m : Int) != (n : Int)) = true := by simp; omega
        go_enter Tryd.func16, Tryd.ntmps16
        go_wp2_with fail
        refine bodyPost_ret (v := .tuple #[.agg #[.int .i64 (0), .int .i64 (0), .int .i64 (0)], .bool false]) (by first | (simp [results, Tryd.results16, go_sem, *]; done) | simp [results, Tryd.results16, go_sem, *, ↓IntWalk.iteOmega]) rfl ⟨fRet0 HF.out, (by repeat (first | with_reducible exact Below.refl _ _ | with_reducible assumption | with_reducible refine bel_alloc ?_ _ | with_reducible refine bel_drew ?_ | with_reducible refine bel_drewN ?_ _ | with_reducible refine bel_set ?_ (by (try simp) <;> omega) _ | with_reducible refine bel_trans ?_ (by assumption)))⟩
    · have HF := hide (fNone_ok (show fOk P Q = false by have := HN.out; simp [fOk]; omega))
      have d1 : ¬ ((n : Int) < 1) := by omega
      have d2 : 8 < (n : Int) := by omega
      have d3 : ((n : Int) == 0) = false := by simp; omega
      go_enter Tryd.func16, Tryd.ntmps16
      go_wp2_with fail
      refine bodyPost_ret (v := .tuple #[.agg #[.int .i64 (0), .int .i64 (0), .int .i64 (0)], .bool false]) (by first | (simp [results, Tryd.results16, go_sem, *]; done) | simp [results, Tryd.results16, go_sem, *, ↓IntWalk.iteOmega]) rfl ⟨fRet0 HF.out, (by repeat (first | with_reducible exact Below.refl _ _ | with_reducible assumption | with_reducible refine bel_alloc ?_ _ | with_reducible refine bel_drew ?_ | with_reducible refine bel_drewN ?_ _ | with_reducible refine bel_set ?_ (by (try simp) <;> omega) _ | with_reducible refine bel_trans ?_ (by assumption)))⟩
  · have HF := hide (fNone_ok (show fOk P Q = false by have := HN.out; simp [fOk]; omega))
    obtain rfl : n = 0 := by omega
    go_enter Tryd.func16, Tryd.ntmps16
    go_wp2_with fail
    refine bodyPost_ret (v := .tuple #[.agg #[.int .i64 (0), .int .i64 (0), .int .i64 (0)], .bool false]) (by first | (simp [results, Tryd.results16, go_sem, *]; done) | simp [results, Tryd.results16, go_sem, *, ↓IntWalk.iteOmega]) rfl ⟨fRet0 HF.out, (by repeat (first | with_reducible exact Below.refl _ _ | with_reducible assumption | with_reducible refine bel_alloc ?_ _ | with_reducible refine bel_drew ?_ | with_reducible refine bel_drewN ?_ _ | with_reducible refine bel_set ?_ (by (try simp) <;> omega) _ | with_reducible refine bel_trans ?_ (by assumption)))⟩
end Go.Proofs.YtldgjocjcbhkmabDoor
